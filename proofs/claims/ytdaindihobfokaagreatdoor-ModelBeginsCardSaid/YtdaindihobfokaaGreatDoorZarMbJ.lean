/-
MbJ: the document's Begins, walked.
-/
import Derived.Test.YtdaindihobfokaaGreatDoorZapMbI
import Derived.Test.YtdaindihobfokaaGreatDoorZaqDrDs
namespace Go.Proofs.YtdaindihobfokaaGreatDoor
open Go.RowKit
set_option linter.unusedVariables false
set_option linter.unusedSimpArgs false
attribute [local go_sem] Oper.semAt_some Mb.run_store_float
namespace Mb
open Mem Wi Dr
theorem Pl.take {w : World} {a : Option Addr} {n c : Nat} {L : List Pk} (h : Pl w (.slice a n c) L) (k : Nat) (hk : k ≤ L.length) : Pl w (.slice a k c) (L.take k) := by
  obtain ⟨a', c', h1, h2, h3⟩ := h
  simp only [Value.slice.injEq] at h1
  obtain ⟨rfl, rfl, rfl⟩ := h1
  refine ⟨a, c, by rw [List.length_take, Nat.min_eq_left hk], by rw [List.length_take]; omega, fun i p hp => h3 i p ?_⟩
  rw [List.getElem?_take] at hp
  split at hp
  · exact hp
  · cases hp
theorem Pl.ownN {w : World} {v : Value} {L : List Pk} {base n : Nat} (h : w.ownsRow base 35 11 v n (L.flatMap pkc)) (hn : n = L.length) : Pl w v L := by subst hn; exact Pl.own h
theorem Pl.cap {w : World} {a : Option Addr} {n c : Nat} {L : List Pk} (h : Pl w (.slice a n c) L) : n ≤ c := by
  obtain ⟨a', c', h1, h2, h3⟩ := h
  simp only [Value.slice.injEq] at h1
  obtain ⟨rfl, rfl, rfl⟩ := h1
  exact h2
theorem mem_ofL {L : List Pk} {k : Nat} {x : Pk} (h : x ∈ ofL L k) : x ∈ L := (List.mem_filter.1 h).1
/-- what the document asks at one place -/
def okAt (A B : List Pk) (k : Nat) : Prop := (∀ x y, 0 < k → A[k - 1]? = some x → A[k]? = some y → x.ep ≤ y.ep) ∧ ∀ y, A[k]? = some y → news (·.ep) A k → pref likeB (ofL A y.ep) (ofL B y.ep) = true
theorem okAt_all {A B : List Pk} : (∀ k, k < A.length → okAt A B k) ↔ (rises (·.ep) A = true ∧ ∀ i a, A[i]? = some a → news (·.ep) A i → pref likeB (flt (·.ep) A a.ep) (flt (·.ep) B a.ep) = true) := by
  rw [rises_get]
  constructor
  · intro h
    refine ⟨fun i a b ha hb => ?_, fun i a ha hn => ?_⟩
    · have hlt := (List.getElem?_eq_some_iff.1 hb).1
      exact (h (i + 1) hlt).1 a b (by omega) (by simpa using ha) hb
    · exact (h i (List.getElem?_eq_some_iff.1 ha).1).2 a ha hn
  · rintro ⟨h1, h2⟩ k hk
    refine ⟨fun x y h0 hx hy => ?_, fun y hy hn => h2 k y hy hn⟩
    obtain ⟨j, rfl⟩ : ∃ j, k = j + 1 := ⟨k - 1, by omega⟩
    exact h1 j x y (by simpa using hx) hy
theorem all_take {A B : List Pk} (h : A.length ≤ B.length) : allB A (B.take A.length) = pref likeB A B := by
  rw [Bool.eq_iff_iff, pref_iff]
  unfold allB
  rw [Bool.and_eq_true, decide_eq_true_iff, pref_iff]
  have e : (B.take A.length).length = A.length := by rw [List.length_take]; omega
  refine ⟨fun h' => ⟨h, fun i a b ha hb => h'.2.2 i a b ha ?_⟩, fun h' => ⟨e.symm, by omega, fun i a b ha hb => h'.2 i a b ha ?_⟩⟩
  · rw [List.getElem?_take, if_pos (List.getElem?_eq_some_iff.1 ha).1]; exact hb
  · rw [List.getElem?_take] at hb
    split at hb
    · exact hb
    · cases hb
set_option maxHeartbeats 8000000 in
set_option maxRecDepth 100000 in
theorem rbegins_t (w : World) (a b : Option Addr) (n m c d : Nat) (A B : List Pk) (h1 : Pl w (.slice a n c) A) (h2 : Pl w (.slice b m d) B) (hn : n = A.length) (hm : m = B.length) (hl : (n + n / 4 + 512) * 64 ≤ 281474976710656) (hl2 : (m + m / 4 + 512) * 64 ≤ 281474976710656)
    (hA : ∀ p ∈ A, p.sp < 18446744073709551616 ∧ p.ep < 4294967296) (hB : ∀ p ∈ B, p.sp < 18446744073709551616) : Calls Tryz.prog 5 #[.slice a n c, .slice b m d] w fun e w' => ∃ r : Bool, e = .returned (.bool r) ∧ (r = true ↔ ∀ k, k < A.length → okAt A B k) ∧ Keeps (fun _ => False) w w' := by
  have HA := Lib.hid h1
  have HB := Lib.hid h2
  have HS := Lib.hid (And.intro hA hB)
  have HN := Lib.hid (And.intro hn (And.intro hm (And.intro hl hl2)))
  have hnI : (n : Int) ≤ 4611686018427387904 := by omega
  clear h1 h2 hn hm hl hA hB hl2
  go_enter Tryz.func5, Tryz.ntmps5
  go_wp2
  go_loopw [5] (fun q wr => ∃ i : Nat, q = .int .i64 (i : Int) ∧ i ≤ n ∧ (∀ k, k < i → okAt A B k) ∧ Keeps (fun _ => False) w wr) (fun q _ => n - (intOf q).toNat)
  case atStart => exact ⟨0, rfl, Nat.zero_le _, fun k h => absurd h (Nat.not_lt_zero _), Keeps.refl _ _⟩
  case round =>
    obtain ⟨i, rfl, hi, hL, hK⟩ := hrel
    have HL := Lib.hid hL
    have HKR := Lib.hid hK
    by_cases hlt : i < n
    · have hltI : (i : Int) < (n : Int) := by omega
      obtain ⟨p, hp⟩ : ∃ p, A[i]? = some p := ⟨_, List.getElem?_eq_getElem (by have := HN.out; omega)⟩
      have hPA := HA.out.kd hK
      obtain ⟨g, off, rfl, cp⟩ := hPA.row hp
      have c1 := cp.2.1
      have HC := Lib.hid (fun W (hk : Keeps (fun _ => False) w W) => (show W.cell? ⟨g, off + i * 11 + 1, none⟩ = some (.int .u32 (p.ep : Int)) from by obtain ⟨g1, o1, e1, c1⟩ := (HA.out.kd hk).row hp; cases e1; exact c1.2.1))
      clear hL hK cp
      by_cases h0 : i = 0
      · subst h0
        go_wp2
        · (apply join_one; refine wp_region_held_drew (S := fun W => True) (by kernel_rfl) (by exact trivial) (fun hS0 => ?_))
          · refine tK 0 hS0 ?_
            refine tK 1 hS0 ?_
            refine tK 2 hS0 ?_
            (refine sK 3 hS0 ?_; refine sK 4 hS0 ?_; refine sK 5 hS0 ?_; refine sK 6 hS0 ?_; refine sK 7 hS0 ?_; refine sK 8 hS0 ?_; refine sK 9 hS0 ?_; refine sK 10 hS0 ?_; refine sK 11 hS0 ?_; refine sK 12 hS0 ?_; refine sK 13 hS0 ?_; refine sK 14 hS0 ?_)
            refine tK 15 hS0 ?_
            (refine wpAnyH_done (by kernel_rfl) ?_ _; exact ⟨rfl, rfl⟩)
          go_wp2
          (apply join_one; refine wp_region_held_drew (S := fun W => True) (by kernel_rfl) (by exact trivial) (fun hS0 => ?_))
          · refine tK 0 hS0 ?_
            refine tK 1 hS0 ?_
            refine tK 2 hS0 ?_
            (refine sK 3 hS0 ?_; refine sK 4 hS0 ?_; refine sK 5 hS0 ?_; refine sK 6 hS0 ?_; refine sK 7 hS0 ?_; refine sK 8 hS0 ?_; refine sK 9 hS0 ?_; refine sK 10 hS0 ?_; refine sK 11 hS0 ?_; refine sK 12 hS0 ?_; refine sK 13 hS0 ?_; refine sK 14 hS0 ?_)
            refine tK 15 hS0 ?_
            (refine wpAnyH_done (by kernel_rfl) ?_ _; exact ⟨rfl, rfl⟩)
          have HO := Lib.hid (show (∀ x y, 0 < 0 → A[0 - 1]? = some x → A[0]? = some y → x.ep ≤ y.ep) ∧ news (·.ep) A 0 from ⟨fun x y h => absurd h (Nat.lt_irrefl 0), ⟨p, hp, fun b h => absurd h (Nat.lt_irrefl 0)⟩⟩)
          have HP := Lib.hid hp
          obtain ⟨la, hla⟩ : ∃ la, la = (ofL A p.ep).length := ⟨_, rfl⟩
          obtain ⟨lb, hlb⟩ : ∃ lb, lb = (ofL B p.ep).length := ⟨_, rfl⟩
          have HFA := Lib.hid (fun W (hk : Keeps (fun _ => False) w W) => of_t W (some ⟨g, off, none⟩) n c p.ep A (HA.out.kd hk) HN.out.1 HN.out.2.2.1 (HS.out.1 p (List.mem_of_getElem? hp)).2)
          have HFB := Lib.hid (fun W (hk : Keeps (fun _ => False) w W) => of_t W b m d p.ep B (HB.out.kd hk) HN.out.2.1 HN.out.2.2.2 (HS.out.1 p (List.mem_of_getElem? hp)).2)
          rw [← hla] at HFA
          rw [← hlb] at HFB
          obtain ⟨pv, hpv⟩ : ∃ pv, pv = pref likeB (ofL A p.ep) (ofL B p.ep) := ⟨_, rfl⟩
          have HLL := Lib.hid (And.intro hla hlb)
          have HPV := Lib.hid (And.intro hpv hp)
          have HNO := Lib.hid (fun (e : pv = false) (hall : ∀ k, k < A.length → okAt A B k) => show False from by
            have h1 := (hall 0 (by have := HN.out.1; omega)).2 p HP.out HO.out.2
            rw [← hpv, e] at h1
            cases h1)
          by_cases hle : la ≤ lb
          · have hleI : ¬ ((lb : Int) < (la : Int)) := by omega
            have HLE := Lib.hid (show la ≤ (ofL B p.ep).length by omega)
            have HRA := Lib.hid (fun W oa oc ob od (h1 : Pl W (.slice oa la oc) (ofL A p.ep)) (h2 : Pl W (.slice ob la od) ((ofL B p.ep).take la)) => rall_t W oa ob la la oc od _ _ h1 h2 hla (by rw [List.length_take]; omega) (by have := of_le A p.ep; have := HN.out; omega) (fun x hx => (HS.out.1 x (mem_ofL hx)).1) (fun x hx => HS.out.2 x (mem_ofL (List.mem_of_mem_take hx))))
            rw [show allB (ofL A p.ep) ((ofL B p.ep).take la) = pv from by rw [hpv, hla]; exact all_take (by omega)] at HRA
            clear hla hlb hp hPA hpv
            cases pv with
            | true =>
              go_wp2_with (first | (go_at_call 12; (with_reducible refine (HFA.out _ (by repeat (first | exact HKR.out | refine Keeps.drew ?_))).mono ?_); rintro e w1 ⟨oa, oc, rfl, hk, ho⟩; have K1 := Lib.hid (And.intro (Keeps.trans (show Keeps (fun _ => False) w _ from by repeat (first | exact HKR.out | refine Keeps.drew ?_)) hk) (Pl.ownN ho HLL.out.1)); have c2 := HC.out w1 K1.out.1; clear hk ho c1) | (go_at_call 12; (with_reducible refine (HFB.out w1 K1.out.1).mono ?_); rintro e w2 ⟨ob, od, rfl, hk, ho⟩; have K2 := Lib.hid (And.intro (K1.out.1.trans hk) (And.intro (Pl.ownN ho HLL.out.2) (K1.out.2.kd hk))); first | (have hcap := Nat.le_trans hle (Pl.cap K2.out.2.1); clear hk ho) | clear hk ho) | (go_at_call 7; (with_reducible refine (HRA.out _ _ _ _ _ K2.out.2.2 (Pl.take K2.out.2.1 la HLE.out)).mono ?_); rintro e w3 ⟨rfl, hk⟩; have K3 := Lib.hid (K2.out.1.trans hk); clear hk))
              go_roundw
              case rel => exact ⟨0 + 1, rfl, by omega, fun k hk => by
                by_cases hki : k < 0
                · exact HL.out k hki
                · obtain rfl : k = 0 := by omega
                  refine ⟨HO.out.1, fun y hy _ => ?_⟩
                  obtain rfl : p = y := Option.some.inj (HP.out.symm.trans hy)
                  exact HPV.out.1.symm, K3.out⟩
              case measure => simp only [intOf]; omega
            | false =>
              go_wp2_with (first | (go_at_call 12; (with_reducible refine (HFA.out _ (by repeat (first | exact HKR.out | refine Keeps.drew ?_))).mono ?_); rintro e w1 ⟨oa, oc, rfl, hk, ho⟩; have K1 := Lib.hid (And.intro (Keeps.trans (show Keeps (fun _ => False) w _ from by repeat (first | exact HKR.out | refine Keeps.drew ?_)) hk) (Pl.ownN ho HLL.out.1)); have c2 := HC.out w1 K1.out.1; clear hk ho c1) | (go_at_call 12; (with_reducible refine (HFB.out w1 K1.out.1).mono ?_); rintro e w2 ⟨ob, od, rfl, hk, ho⟩; have K2 := Lib.hid (And.intro (K1.out.1.trans hk) (And.intro (Pl.ownN ho HLL.out.2) (K1.out.2.kd hk))); first | (have hcap := Nat.le_trans hle (Pl.cap K2.out.2.1); clear hk ho) | clear hk ho) | (go_at_call 7; (with_reducible refine (HRA.out _ _ _ _ _ K2.out.2.2 (Pl.take K2.out.2.1 la HLE.out)).mono ?_); rintro e w3 ⟨rfl, hk⟩; have K3 := Lib.hid (K2.out.1.trans hk); clear hk))
              go_ret
              exact ⟨false, rfl, ⟨fun h => (by cases h), fun h => (HNO.out (by trivial) h).elim⟩, K3.out⟩
          · have hleI : (lb : Int) < (la : Int) := by omega
            obtain rfl : pv = false := by
              rw [hpv, ← Bool.not_eq_true]
              intro h
              have := ((pref_iff likeB).1 h).1
              omega
            clear hla hlb hp hPA hpv
            go_wp2_with (first | (go_at_call 12; (with_reducible refine (HFA.out _ (by repeat (first | exact HKR.out | refine Keeps.drew ?_))).mono ?_); rintro e w1 ⟨oa, oc, rfl, hk, ho⟩; have K1 := Lib.hid (And.intro (Keeps.trans (show Keeps (fun _ => False) w _ from by repeat (first | exact HKR.out | refine Keeps.drew ?_)) hk) (Pl.ownN ho HLL.out.1)); have c2 := HC.out w1 K1.out.1; clear hk ho c1) | (go_at_call 12; (with_reducible refine (HFB.out w1 K1.out.1).mono ?_); rintro e w2 ⟨ob, od, rfl, hk, ho⟩; have K2 := Lib.hid (And.intro (K1.out.1.trans hk) (And.intro (Pl.ownN ho HLL.out.2) (K1.out.2.kd hk))); first | (have hcap := Nat.le_trans hle (Pl.cap K2.out.2.1); clear hk ho) | clear hk ho) | (go_at_call 7; (with_reducible refine (HRA.out _ _ _ _ _ K2.out.2.2 (Pl.take K2.out.2.1 la HLE.out)).mono ?_); rintro e w3 ⟨rfl, hk⟩; have K3 := Lib.hid (K2.out.1.trans hk); clear hk))
            go_ret
            exact ⟨false, rfl, ⟨fun h => (by cases h), fun h => (HNO.out (by trivial) h).elim⟩, K2.out.1⟩
      · have hpos : 0 < i := by omega
        obtain ⟨j, hj⟩ : ∃ j : Nat, i = j + 1 := ⟨i - 1, by omega⟩
        have hwj : IntKind.i64.wrap ((i : Int) - 1) = (j : Int) := by rw [show (i : Int) - 1 = (j : Int) by omega]; exact IntWalk.i64_in _ (by omega)
        have hlt2 : (j : Int) < (n : Int) := by omega
        obtain ⟨q, hq⟩ : ∃ q, A[j]? = some q := ⟨_, List.getElem?_eq_getElem (by have := HN.out; omega)⟩
        have HD := Lib.hid (fun W (hk : Keeps (fun _ => False) w W) => (show W.cell? ⟨g, off + j * 11 + 1, none⟩ = some (.int .u32 (q.ep : Int)) from by obtain ⟨g1, o1, e1, c1⟩ := (HA.out.kd hk).row hq; cases e1; exact c1.2.1))
        have d1 := HD.out wr HKR.out
        have HJ := Lib.hid hj
        clear h0 hj
        by_cases hc1 : p.ep < q.ep
        · go_wp2
          (apply join_one; refine wp_region_held_drew (S := fun W => W.cell? ⟨g, off + i * 11 + 1, none⟩ = some (.int .u32 (p.ep : Int)) ∧ W.cell? ⟨g, off + j * 11 + 1, none⟩ = some (.int .u32 (q.ep : Int))) (by kernel_rfl) (by exact ⟨c1, d1⟩) (fun hS0 => ?_))
          · refine tK 0 hS0 ?_
            refine tK 1 hS0 ?_
            refine tK 2 hS0 ?_
            (refine tK 3 hS0 ?_; refine tK 4 hS0 ?_; refine tK 5 hS0 ?_; refine tK 6 hS0 ?_; refine tK 7 hS0 ?_; refine tK 8 hS0 ?_; refine tK 9 hS0 ?_; refine tK 10 hS0 ?_; refine tK 11 hS0 ?_; refine tK 12 hS0 ?_; refine tK 13 hS0 ?_; refine tK 14 hS0 ?_)
            refine tK 15 hS0 ?_
            (refine wpAnyH_done (by kernel_rfl) ?_ _; exact ⟨rfl, rfl⟩)
          go_wp2
          go_ret
          refine ⟨false, rfl, ⟨fun h => (by cases h), fun h => ?_⟩, HKR.out.drew⟩
          have h3 := (h i (by have := HN.out.1; omega)).1 q p hpos (by rw [HJ.out, Nat.add_sub_cancel]; exact hq) hp
          exact absurd hc1 (by omega)
        · by_cases hc2 : p.ep = q.ep
          · have hc2I : (p.ep : Int) = (q.ep : Int) := by omega
            have HP := Lib.hid (And.intro hp (And.intro hq hc2))
            clear hc2 hp hq
            go_wp2
            (apply join_one; refine wp_region_held_drew (S := fun W => W.cell? ⟨g, off + i * 11 + 1, none⟩ = some (.int .u32 (p.ep : Int)) ∧ W.cell? ⟨g, off + j * 11 + 1, none⟩ = some (.int .u32 (q.ep : Int))) (by kernel_rfl) (by exact ⟨c1, d1⟩) (fun hS0 => ?_))
            · refine tK 0 hS0 ?_
              refine tK 1 hS0 ?_
              refine tK 2 hS0 ?_
              (refine tK 3 hS0 ?_; refine tK 4 hS0 ?_; refine tK 5 hS0 ?_; refine tK 6 hS0 ?_; refine tK 7 hS0 ?_; refine tK 8 hS0 ?_; refine tK 9 hS0 ?_; refine tK 10 hS0 ?_; refine tK 11 hS0 ?_; refine tK 12 hS0 ?_; refine tK 13 hS0 ?_; refine tK 14 hS0 ?_)
              refine tK 15 hS0 ?_
              (refine wpAnyH_done (by kernel_rfl) ?_ _; exact ⟨rfl, rfl⟩)
            go_wp2
            (apply join_one; refine wp_region_held_drew (S := fun W => W.cell? ⟨g, off + i * 11 + 1, none⟩ = some (.int .u32 (p.ep : Int)) ∧ W.cell? ⟨g, off + j * 11 + 1, none⟩ = some (.int .u32 (q.ep : Int))) (by kernel_rfl) (by exact ⟨c1, d1⟩) (fun hS0 => ?_))
            · refine tK 0 hS0 ?_
              refine tK 1 hS0 ?_
              refine tK 2 hS0 ?_
              (refine tK 3 hS0 ?_; refine tK 4 hS0 ?_; refine tK 5 hS0 ?_; refine tK 6 hS0 ?_; refine tK 7 hS0 ?_; refine tK 8 hS0 ?_; refine tK 9 hS0 ?_; refine tK 10 hS0 ?_; refine tK 11 hS0 ?_; refine tK 12 hS0 ?_; refine tK 13 hS0 ?_; refine tK 14 hS0 ?_)
              refine tK 15 hS0 ?_
              (refine wpAnyH_done (by kernel_rfl) ?_ _; exact ⟨rfl, rfl⟩)
            go_wp2
            go_roundw
            case rel => exact ⟨i + 1, rfl, by omega, fun k hk => by
              by_cases hki : k < i
              · exact HL.out k hki
              · obtain rfl : k = i := by omega
                refine ⟨fun x y _ hx hy => ?_, fun y hy hn => ?_⟩
                · obtain rfl : p = y := Option.some.inj (HP.out.1.symm.trans hy)
                  rw [HJ.out, Nat.add_sub_cancel] at hx
                  obtain rfl : q = x := Option.some.inj (HP.out.2.1.symm.trans hx)
                  omega
                · obtain ⟨a1, ha1, hb1⟩ := hn
                  obtain rfl : p = y := Option.some.inj (HP.out.1.symm.trans hy)
                  obtain rfl : p = a1 := Option.some.inj (HP.out.1.symm.trans ha1)
                  exact absurd HP.out.2.2.symm (hb1 q hpos (by rw [HJ.out, Nat.add_sub_cancel]; exact HP.out.2.1)), HKR.out.drew.drew⟩
            case measure => simp only [intOf]; omega
          · have hc2I : ¬ ((p.ep : Int) = (q.ep : Int)) := by omega
            have HO := Lib.hid (show (∀ x y, 0 < i → A[i - 1]? = some x → A[i]? = some y → x.ep ≤ y.ep) ∧ news (·.ep) A i from ⟨fun x y _ hx hy => (by
                obtain rfl : p = y := Option.some.inj (hp.symm.trans hy)
                rw [HJ.out, Nat.add_sub_cancel] at hx
                obtain rfl : q = x := Option.some.inj (hq.symm.trans hx)
                omega), ⟨p, hp, fun x _ hx => (by
                rw [HJ.out, Nat.add_sub_cancel] at hx
                obtain rfl : q = x := Option.some.inj (hq.symm.trans hx)
                exact fun e => hc2 e.symm)⟩⟩)
            have HQ := Lib.hid hq
            clear hc2 hq
            go_wp2
            (apply join_one; refine wp_region_held_drew (S := fun W => W.cell? ⟨g, off + i * 11 + 1, none⟩ = some (.int .u32 (p.ep : Int)) ∧ W.cell? ⟨g, off + j * 11 + 1, none⟩ = some (.int .u32 (q.ep : Int))) (by kernel_rfl) (by exact ⟨c1, d1⟩) (fun hS0 => ?_))
            · refine tK 0 hS0 ?_
              refine tK 1 hS0 ?_
              refine tK 2 hS0 ?_
              (refine tK 3 hS0 ?_; refine tK 4 hS0 ?_; refine tK 5 hS0 ?_; refine tK 6 hS0 ?_; refine tK 7 hS0 ?_; refine tK 8 hS0 ?_; refine tK 9 hS0 ?_; refine tK 10 hS0 ?_; refine tK 11 hS0 ?_; refine tK 12 hS0 ?_; refine tK 13 hS0 ?_; refine tK 14 hS0 ?_)
              refine tK 15 hS0 ?_
              (refine wpAnyH_done (by kernel_rfl) ?_ _; exact ⟨rfl, rfl⟩)
            go_wp2
            (apply join_one; refine wp_region_held_drew (S := fun W => W.cell? ⟨g, off + i * 11 + 1, none⟩ = some (.int .u32 (p.ep : Int)) ∧ W.cell? ⟨g, off + j * 11 + 1, none⟩ = some (.int .u32 (q.ep : Int))) (by kernel_rfl) (by exact ⟨c1, d1⟩) (fun hS0 => ?_))
            · refine tK 0 hS0 ?_
              refine tK 1 hS0 ?_
              refine tK 2 hS0 ?_
              (refine tK 3 hS0 ?_; refine tK 4 hS0 ?_; refine tK 5 hS0 ?_; refine tK 6 hS0 ?_; refine tK 7 hS0 ?_; refine tK 8 hS0 ?_; refine tK 9 hS0 ?_; refine tK 10 hS0 ?_; refine tK 11 hS0 ?_; refine tK 12 hS0 ?_; refine tK 13 hS0 ?_; refine tK 14 hS0 ?_)
              refine tK 15 hS0 ?_
              (refine wpAnyH_done (by kernel_rfl) ?_ _; exact ⟨rfl, rfl⟩)
            have HP := Lib.hid hp
            obtain ⟨la, hla⟩ : ∃ la, la = (ofL A p.ep).length := ⟨_, rfl⟩
            obtain ⟨lb, hlb⟩ : ∃ lb, lb = (ofL B p.ep).length := ⟨_, rfl⟩
            have HFA := Lib.hid (fun W (hk : Keeps (fun _ => False) w W) => of_t W (some ⟨g, off, none⟩) n c p.ep A (HA.out.kd hk) HN.out.1 HN.out.2.2.1 (HS.out.1 p (List.mem_of_getElem? hp)).2)
            have HFB := Lib.hid (fun W (hk : Keeps (fun _ => False) w W) => of_t W b m d p.ep B (HB.out.kd hk) HN.out.2.1 HN.out.2.2.2 (HS.out.1 p (List.mem_of_getElem? hp)).2)
            rw [← hla] at HFA
            rw [← hlb] at HFB
            obtain ⟨pv, hpv⟩ : ∃ pv, pv = pref likeB (ofL A p.ep) (ofL B p.ep) := ⟨_, rfl⟩
            have HLL := Lib.hid (And.intro hla hlb)
            have HPV := Lib.hid (And.intro hpv hp)
            have HNO := Lib.hid (fun (e : pv = false) (hall : ∀ k, k < A.length → okAt A B k) => show False from by
              have h1 := (hall i (by have := HN.out.1; omega)).2 p HP.out HO.out.2
              rw [← hpv, e] at h1
              cases h1)
            by_cases hle : la ≤ lb
            · have hleI : ¬ ((lb : Int) < (la : Int)) := by omega
              have HLE := Lib.hid (show la ≤ (ofL B p.ep).length by omega)
              have HRA := Lib.hid (fun W oa oc ob od (h1 : Pl W (.slice oa la oc) (ofL A p.ep)) (h2 : Pl W (.slice ob la od) ((ofL B p.ep).take la)) => rall_t W oa ob la la oc od _ _ h1 h2 hla (by rw [List.length_take]; omega) (by have := of_le A p.ep; have := HN.out; omega) (fun x hx => (HS.out.1 x (mem_ofL hx)).1) (fun x hx => HS.out.2 x (mem_ofL (List.mem_of_mem_take hx))))
              rw [show allB (ofL A p.ep) ((ofL B p.ep).take la) = pv from by rw [hpv, hla]; exact all_take (by omega)] at HRA
              clear hla hlb hp hPA hpv
              cases pv with
              | true =>
                go_wp2_with (first | (go_at_call 12; (with_reducible refine (HFA.out _ (by repeat (first | exact HKR.out | refine Keeps.drew ?_))).mono ?_); rintro e w1 ⟨oa, oc, rfl, hk, ho⟩; have K1 := Lib.hid (And.intro (Keeps.trans (show Keeps (fun _ => False) w _ from by repeat (first | exact HKR.out | refine Keeps.drew ?_)) hk) (Pl.ownN ho HLL.out.1)); have c2 := HC.out w1 K1.out.1; clear hk ho c1) | (go_at_call 12; (with_reducible refine (HFB.out w1 K1.out.1).mono ?_); rintro e w2 ⟨ob, od, rfl, hk, ho⟩; have K2 := Lib.hid (And.intro (K1.out.1.trans hk) (And.intro (Pl.ownN ho HLL.out.2) (K1.out.2.kd hk))); first | (have hcap := Nat.le_trans hle (Pl.cap K2.out.2.1); clear hk ho) | clear hk ho) | (go_at_call 7; (with_reducible refine (HRA.out _ _ _ _ _ K2.out.2.2 (Pl.take K2.out.2.1 la HLE.out)).mono ?_); rintro e w3 ⟨rfl, hk⟩; have K3 := Lib.hid (K2.out.1.trans hk); clear hk))
                go_roundw
                case rel => exact ⟨i + 1, rfl, by omega, fun k hk => by
                  by_cases hki : k < i
                  · exact HL.out k hki
                  · obtain rfl : k = i := by omega
                    refine ⟨HO.out.1, fun y hy _ => ?_⟩
                    obtain rfl : p = y := Option.some.inj (HP.out.symm.trans hy)
                    exact HPV.out.1.symm, K3.out⟩
                case measure => simp only [intOf]; omega
              | false =>
                go_wp2_with (first | (go_at_call 12; (with_reducible refine (HFA.out _ (by repeat (first | exact HKR.out | refine Keeps.drew ?_))).mono ?_); rintro e w1 ⟨oa, oc, rfl, hk, ho⟩; have K1 := Lib.hid (And.intro (Keeps.trans (show Keeps (fun _ => False) w _ from by repeat (first | exact HKR.out | refine Keeps.drew ?_)) hk) (Pl.ownN ho HLL.out.1)); have c2 := HC.out w1 K1.out.1; clear hk ho c1) | (go_at_call 12; (with_reducible refine (HFB.out w1 K1.out.1).mono ?_); rintro e w2 ⟨ob, od, rfl, hk, ho⟩; have K2 := Lib.hid (And.intro (K1.out.1.trans hk) (And.intro (Pl.ownN ho HLL.out.2) (K1.out.2.kd hk))); first | (have hcap := Nat.le_trans hle (Pl.cap K2.out.2.1); clear hk ho) | clear hk ho) | (go_at_call 7; (with_reducible refine (HRA.out _ _ _ _ _ K2.out.2.2 (Pl.take K2.out.2.1 la HLE.out)).mono ?_); rintro e w3 ⟨rfl, hk⟩; have K3 := Lib.hid (K2.out.1.trans hk); clear hk))
                go_ret
                exact ⟨false, rfl, ⟨fun h => (by cases h), fun h => (HNO.out (by trivial) h).elim⟩, K3.out⟩
            · have hleI : (lb : Int) < (la : Int) := by omega
              obtain rfl : pv = false := by
                rw [hpv, ← Bool.not_eq_true]
                intro h
                have := ((pref_iff likeB).1 h).1
                omega
              clear hla hlb hp hPA hpv
              go_wp2_with (first | (go_at_call 12; (with_reducible refine (HFA.out _ (by repeat (first | exact HKR.out | refine Keeps.drew ?_))).mono ?_); rintro e w1 ⟨oa, oc, rfl, hk, ho⟩; have K1 := Lib.hid (And.intro (Keeps.trans (show Keeps (fun _ => False) w _ from by repeat (first | exact HKR.out | refine Keeps.drew ?_)) hk) (Pl.ownN ho HLL.out.1)); have c2 := HC.out w1 K1.out.1; clear hk ho c1) | (go_at_call 12; (with_reducible refine (HFB.out w1 K1.out.1).mono ?_); rintro e w2 ⟨ob, od, rfl, hk, ho⟩; have K2 := Lib.hid (And.intro (K1.out.1.trans hk) (And.intro (Pl.ownN ho HLL.out.2) (K1.out.2.kd hk))); first | (have hcap := Nat.le_trans hle (Pl.cap K2.out.2.1); clear hk ho) | clear hk ho) | (go_at_call 7; (with_reducible refine (HRA.out _ _ _ _ _ K2.out.2.2 (Pl.take K2.out.2.1 la HLE.out)).mono ?_); rintro e w3 ⟨rfl, hk⟩; have K3 := Lib.hid (K2.out.1.trans hk); clear hk))
              go_ret
              exact ⟨false, rfl, ⟨fun h => (by cases h), fun h => (HNO.out (by trivial) h).elim⟩, K2.out.1⟩
    · obtain rfl : i = n := by omega
      clear hL hK
      go_wp2
      go_ret
      refine ⟨true, rfl, ⟨fun _ k hk => HL.out k (by have := HN.out.1; omega), fun _ => rfl⟩, HKR.out⟩
end Mb
end Go.Proofs.YtdaindihobfokaaGreatDoor
