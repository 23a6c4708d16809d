/-
MbF: the document's list of one epoch, walked.
-/
import Derived.Test.YtdaindihobfokaaGreatDoorZahMbE
namespace Go.Proofs.YtdaindihobfokaaGreatDoor
open Go.RowKit
set_option linter.unusedVariables false
set_option linter.unusedSimpArgs false
attribute [local go_sem] Oper.semAt_some Mb.run_store_float
namespace Mb
open Mem
theorem fits_le {m n : Nat} (h : m ≤ n) (hl : (n + n / 4 + 512) * 64 ≤ 281474976710656) : (m + m / 4 + 512) * 64 ≤ 281474976710656 :=
  Nat.le_trans (Nat.mul_le_mul_right 64 (Nat.add_le_add_right (Nat.add_le_add h (Nat.div_le_div_right h)) 512)) hl
theorem fits_max {m : Nat} (hl : (m + m / 4 + 512) * 64 ≤ 281474976710656) : m + 1 ≤ maxLen := by
  have h1 : m * 1 ≤ (m + m / 4 + 512) * 64 := Nat.mul_le_mul (by omega) (by decide)
  have h2 : (281474976710657 : Nat) ≤ maxLen := by unfold maxLen; decide
  omega
set_option maxHeartbeats 8000000 in
set_option maxRecDepth 100000 in
theorem of_t (w : World) (a : Option Addr) (n c k : Nat) (L : List Pk) (h : Pl w (.slice a n c) L) (hn : n = L.length) (hl : (n + n / 4 + 512) * 64 ≤ 281474976710656) (hk : k < 4294967296) : Calls Tryz.prog 12 #[.slice a n c, .int .u32 (k : Int)] w fun e w' => ∃ oa oc, e = .returned (.slice oa (ofL L k).length oc) ∧ Keeps (fun _ => False) w w' ∧ w'.ownsRow w.heap.size 35 11 (.slice oa (ofL L k).length oc) (ofL L k).length ((ofL L k).flatMap pkc) := by
  have H := Lib.hid h
  have HN := Lib.hid (And.intro hn hl)
  have hnI : (n : Int) ≤ 4611686018427387904 := by omega
  clear h hn hl
  go_enter Tryz.func12, Tryz.ntmps12
  go_wp2
  go_loopw [5, 6] (fun v q wr => ∃ (i : Nat) (la : Option Addr) (lc : Nat), q = .int .i64 (i : Int) ∧ i ≤ n ∧ v = .slice la (ofL (L.take i) k).length lc ∧ wr.ownsRow w.heap.size 35 11 (.slice la (ofL (L.take i) k).length lc) (ofL (L.take i) k).length ((ofL (L.take i) k).flatMap pkc) ∧ Keeps (fun _ => False) w wr) (fun _ q _ => n - (intOf q).toNat)
  case atStart => exact ⟨0, none, 0, rfl, Nat.zero_le _, rfl, World.ownsRow_nil _ _ _ _, Keeps.refl _ _⟩
  case round =>
    obtain ⟨i, la, lc, rfl, hi, rfl, hO, hK⟩ := hrel
    have hli : (ofL (L.take i) k).length ≤ n := by
      have := of_le (L.take i) k
      have := List.length_take_le i L
      omega
    obtain ⟨l, hle⟩ : ∃ l, l = ofL (L.take i) k := ⟨_, rfl⟩
    rw [← hle] at hO hli ⊢
    obtain ⟨m, hm⟩ : ∃ m : Nat, m = l.length := ⟨_, rfl⟩
    rw [← hm] at hO hli ⊢
    have HOw := Lib.hid (And.intro hO trivial)
    have HKR := Lib.hid hK
    have hmm : (m + m / 4 + 512) * 64 ≤ 281474976710656 := fits_le hli HN.out.2
    have HL := Lib.hid (And.intro hle (And.intro hm (And.intro (fits_max hmm) hmm)))
    by_cases hlt : i < n
    · have hltI : (i : Int) < (n : Int) := by omega
      obtain ⟨p, hp⟩ : ∃ p, L[i]? = some p := ⟨_, List.getElem?_eq_getElem (by have := HN.out.1; omega)⟩
      obtain ⟨g, off, rfl, c0, c1, c2, c3, c4, c5, c6, c7, c8, c9, c10⟩ := (H.out.kd hK).row hp
      have HA := Lib.hid (show ofL (L.take (i + 1)) k = if p.ep = k then l ++ [p] else l from by rw [of_at k hp, ← hle])
      clear hO hle hm hli hmm hK hp
      by_cases hc : p.ep = k
      · subst hc
        go_wp2_with (at_builtin; refine app_g Tryz.underlying22 pkI (by decide) (fun _ => rfl) pk_one rfl (.tmp 20) (.tmp 25) rfl w.heap.size l _ la lc rfl (HOw.out.1.alloc _) p wr.heap.size rfl (by exact Mem.news_new wr _ (pkc p)) HL.out.2.2.1 (by decide) HL.out.2.2.2 ((HKR.out.alloc _).size) ?_; intro g' cap' w5 hown hgrow; have HG := Lib.hid (And.intro hown hgrow); clear hown hgrow)
        go_roundw
        case rel =>
          have e := HA.out
          rw [if_pos rfl] at e
          have e2 := HL.out.2.1
          exact ⟨i + 1, some ⟨g', 0, none⟩, cap', by rw [Int.natCast_add]; rfl, by omega, by rw [e, e2]; simp, by rw [e]; exact own_n HG.out.1 (by rw [e2]; simp), (HKR.out.alloc _).grown HG.out.2 (fun k hk e => absurd (HOw.out.1.lt k e).1 (by omega))⟩
        case measure => simp only [intOf]; omega
      · have hcJ : ¬ (p.ep : Int) = (k : Int) := by omega
        go_wp2
        go_roundw
        case rel =>
          have e := HA.out
          rw [if_neg hc] at e
          have e2 := HL.out.2.1
          exact ⟨i + 1, la, lc, by rw [Int.natCast_add]; rfl, by omega, by rw [e, ← e2], by rw [e, ← e2]; exact HOw.out.1, HKR.out⟩
        case measure => simp only [intOf]; omega
    · obtain rfl : i = n := by omega
      have HE := Lib.hid (show l = ofL L k by have h1 := HL.out.1; rwa [HN.out.1, List.take_length] at h1)
      clear hO hle hm hli hmm hK
      go_wp2
      go_ret
      have e1 := HE.out
      have e2 := HL.out.2.1
      have h2 := HOw.out.1
      subst e2
      rw [← e1]
      exact ⟨la, lc, rfl, HKR.out, h2⟩
end Mb
end Go.Proofs.YtdaindihobfokaaGreatDoor
