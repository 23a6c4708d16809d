/-
  DgC: the document's writing of millionths.
-/
import Derived.Test.YtdhelpbhbhihaaaGreatDoorDgA
import Derived.Laws.IdiomStrings
namespace Go.Proofs.YtdhelpbhbhihaaaGreatDoor
open Go.RowKit Go.Lib
set_option linter.unusedVariables false
set_option linter.unusedSimpArgs false
attribute [local go_sem] Oper.semAt_some
namespace Dg
open Mem
theorem part_zero {p k : Nat} (hp : p < 1000000) (hk : k ≤ 6) : p * 10 ^ k % 1000000 = 0 ↔ cut6 p ≤ k := by
  have hk' : k = 0 ∨ k = 1 ∨ k = 2 ∨ k = 3 ∨ k = 4 ∨ k = 5 ∨ k = 6 := by omega
  unfold cut6
  rcases hk' with rfl | rfl | rfl | rfl | rfl | rfl | rfl <;> simp only [Nat.pow_zero, Nat.mul_one, Nat.reducePow] <;> (repeat' split) <;> omega
theorem part_digit {p k : Nat} (hp : p < 1000000) (hk : k < 6) : p * 10 ^ k % 1000000 * 10 / 1000000 = p / 10 ^ (5 - k) % 10 := by
  have hk' : k = 0 ∨ k = 1 ∨ k = 2 ∨ k = 3 ∨ k = 4 ∨ k = 5 := by omega
  rcases hk' with rfl | rfl | rfl | rfl | rfl | rfl <;> simp <;> omega
theorem part_next (p k : Nat) : p * 10 ^ k % 1000000 * 10 % 1000000 = p * 10 ^ (k + 1) % 1000000 := by
  rw [Nat.pow_succ, ← Nat.mul_assoc]
  omega
theorem take_D6 {p k : Nat} (hk : k < 6) : (D6 p).take (k + 1) = (D6 p).take k ++ [dg6 p k] := by
  have hk' : k = 0 ∨ k = 1 ∨ k = 2 ∨ k = 3 ∨ k = 4 ∨ k = 5 := by omega
  rcases hk' with rfl | rfl | rfl | rfl | rfl | rfl <;> rfl
theorem cat_tx (a b : List UInt8) : (({ data := a.toArray } : ByteArray) ++ ({ data := b.toArray } : ByteArray)) = { data := (a ++ b).toArray } := by
  apply ByteArray.ext
  simp
theorem cat_one (d : Nat) (ds : List UInt8) : Value.string (({ data := #[48 + UInt8.ofNat d] } : ByteArray) ++ { data := ds.toArray }) = tx (UInt8.ofNat (48 + d) :: ds) := by
  have e : (48 + UInt8.ofNat d : UInt8) = UInt8.ofNat (48 + d) := by simp
  rw [e]
  exact congrArg Value.string (cat_tx [UInt8.ofNat (48 + d)] ds)
theorem cat_snoc (d : Nat) (ds : List UInt8) : Value.string (({ data := ds.toArray } : ByteArray) ++ { data := #[48 + UInt8.ofNat d] }) = tx (ds ++ [UInt8.ofNat (48 + d)]) := by
  have e : (48 + UInt8.ofNat d : UInt8) = UInt8.ofNat (48 + d) := by simp
  rw [e]
  exact congrArg Value.string (cat_tx ds [UInt8.ofNat (48 + d)])
theorem cat3 (sn ds : List UInt8) (Q : Nat) : Value.string ((({ data := sn.toArray } : ByteArray) ++ { data := #[48 + UInt8.ofNat Q] }) ++ { data := ds.toArray }) = tx (sn ++ UInt8.ofNat (48 + Q) :: ds) := by
  have e : (48 + UInt8.ofNat Q : UInt8) = UInt8.ofNat (48 + Q) := by simp
  rw [e]
  have h1 := cat_tx sn [UInt8.ofNat (48 + Q)]
  have h2 := cat_tx (sn ++ [UInt8.ofNat (48 + Q)]) ds
  rw [← h1] at h2
  refine (congrArg Value.string h2).trans ?_
  simp [tx]
theorem cat4 (sn ds : List UInt8) (Q : Nat) : Value.string (((({ data := sn.toArray } : ByteArray) ++ { data := #[48 + UInt8.ofNat Q] }) ++ { data := ds.toArray }) ++ { data := #[46] }) = tx ((sn ++ UInt8.ofNat (48 + Q) :: ds) ++ [46]) := by
  have h := Value.string.inj (cat3 sn ds Q)
  rw [h]
  exact congrArg Value.string (cat_tx _ [46])
/-- one digit as a text -/
theorem conv1 (W : World) (d : Nat) (hd : d < 10) : (convert 74 9 (.slice (some ⟨W.heap.size, 0, none⟩) 1 1)).run Tryz.prog (W.alloc (.cells #[.int .u8 (48 + (d : Int))] 5)) = .ok (.string { data := [UInt8.ofNat (48 + d)].toArray }) (W.alloc (.cells #[.int .u8 (48 + (d : Int))] 5)) := by
  refine run_convert_bytes_back _ 74 9 5 ⟨W.heap.size, 0, none⟩ 1 [UInt8.ofNat (48 + d)] Tryz.underlying74 Tryz.underlying5 Tryz.underlying9 (fun j hj => ?_)
  have hj0 : j = 0 := by simpa using hj
  subst hj0
  have h := Mem.news_new W 5 [.int .u8 (48 + (d : Int))] 0 _ rfl
  have e : ((UInt8.ofNat (48 + d)).toNat : Int) = 48 + (d : Int) := by rw [ofNat_toNat (by omega)]; omega
  rw [List.getElem_cons_zero, e]
  exact h
def sl : Value → Nat
  | .string s => s.size
  | _ => 0
theorem sl_tx (l : List UInt8) : sl (tx l) = l.length := rfl
set_option maxHeartbeats 4000000 in
set_option maxRecDepth 20000 in
theorem rdeg_t (m : Int) (h1 : -2147483648 ≤ m) (h2 : m ≤ 2147483647) (w : World) : Calls Tryz.prog 32 #[.int .i32 m] w fun e w' => e = .returned (tx (deg m)) ∧ Keeps (fun _ => False) w w' := by
  obtain ⟨n, hn⟩ : ∃ n, n = m.natAbs := ⟨_, rfl⟩
  obtain ⟨q, hq⟩ : ∃ q, q = n / 1000000 := ⟨_, rfl⟩
  obtain ⟨p, hp⟩ : ∃ p, p = n % 1000000 := ⟨_, rfl⟩
  obtain ⟨sn, hsn⟩ : ∃ sn : List UInt8, sn = if m < 0 then [45] else [] := ⟨_, rfl⟩
  have hdeg : deg m = sn ++ decDigits q ++ (if p = 0 then [] else 46 :: (D6 p).take (cut6 p)) := by unfold deg; rw [← hn, ← hq, ← hp, ← hsn]
  have hpn : p < 1000000 := by omega
  have hqn : q < 10000 := by omega
  have e1 : (n : Int).tdiv 1000000 = (q : Int) := by rw [hq]; rfl
  have e2 : (n : Int).tmod 1000000 = (p : Int) := by rw [hp]; rfl
  have HD := Lib.hid hdeg
  by_cases hneg : m < 0
  · have hm : m = -(n : Int) := by omega
    have hn0 : 0 < n := by omega
    rw [if_pos hneg] at hsn
    clear hdeg hn hq hp hneg
    subst hm
    subst hsn
    have hnI : -(n : Int) < 0 := by omega
    go_enter Tryz.func32, Tryz.ntmps32
    go_wp2
    go_loopw [5, 7] (fun x y wr => ∃ (Q : Nat) (ds : List UInt8), x = .int .i64 (Q : Int) ∧ y = tx ds ∧ Q ≤ q ∧ decDigits q = decDigits Q ++ ds ∧ Keeps (fun _ => False) w wr) (fun x _ _ => (intOf x).toNat)
    case atStart => exact ⟨q, [], rfl, rfl, Nat.le_refl _, by simp, Keeps.refl _ _⟩
    case round =>
      obtain ⟨Q, ds, rfl, rfl, hQ, hds, hk⟩ := hrel
      have HS := Lib.hid (And.intro hds hk)
      have g1 : (Q : Int).tdiv 10 = ((Q / 10 : Nat) : Int) := rfl
      have g2 : (Q : Int).tmod 10 = ((Q % 10 : Nat) : Int) := rfl
      obtain ⟨d, hd⟩ : ∃ d, d = Q % 10 := ⟨_, rfl⟩
      have hd10 : d < 10 := by omega
      rw [← hd] at g2
      have hcv := conv1 wr d hd10
      have HQ := Lib.hid hd
      have hdl : ds.length ≤ 4 := by
        have e := congrArg List.length hds
        rw [List.length_append] at e
        have := dec_len hqn
        omega
      clear hds hk hd
      by_cases hbig : 9 < Q
      · have hbI : (Q : Int) > 9 := by omega
        go_wp2
        go_roundw
        case rel =>
          refine ⟨Q / 10, UInt8.ofNat (48 + d) :: ds, rfl, cat_one d ds, by omega, ?_, HS.out.2.alloc _⟩
          rw [HS.out.1, dec_big (u := Q) (by omega), HQ.out]
          simp
        case measure => simp only [intOf]; omega
      · have hbI : ¬ (Q : Int) > 9 := by omega
        have hQ9 : Q < 10 := by omega
        have hdQ : d = Q := by rw [HQ.out]; omega
        subst hdQ
        have hdq : decDigits q = UInt8.ofNat (48 + d) :: ds := by rw [HS.out.1, dec_small hQ9]; rfl
        have HT := Lib.hid (And.intro hdq HS.out.2)
        clear hdq
        by_cases hp0 : p = 0
        · subst hp0
          go_wp2
          go_ret
          refine ⟨?_, HT.out.2.alloc _⟩
          rw [HD.out, HT.out.1, if_pos trivial, List.append_nil]
          exact congrArg Ending.returned (cat3 [45] ds d)
        · have hpI : ¬ (p : Int) = 0 := by omega
          obtain ⟨B, hB⟩ : ∃ B, B = ([45] ++ UInt8.ofNat (48 + d) :: ds) ++ [46] := ⟨_, rfl⟩
          have hBl : B.length ≤ 7 := by rw [hB]; simp; omega
          have HBB := Lib.hid hB
          clear hB
          go_wp2
          go_loopw [4, 6] (fun o x wr2 => ∃ k : Nat, k ≤ cut6 p ∧ x = .int .i64 ((p * 10 ^ k % 1000000 : Nat) : Int) ∧ o = tx (B ++ (D6 p).take k) ∧ Keeps (fun _ => False) w wr2) (fun o _ _ => B.length + 6 - sl o)
          case atStart => exact ⟨0, Nat.zero_le _, by rw [Nat.pow_zero, Nat.mul_one, Nat.mod_eq_of_lt hpn], (cat4 [45] ds d).trans (by rw [HBB.out, List.take_zero, List.append_nil]), HT.out.2.alloc _⟩
          case round =>
            obtain ⟨k, hk, rfl, rfl, hk2⟩ := hrel
            have hc6 := cut6_le p
            have hz := part_zero hpn (Nat.le_trans hk hc6)
            obtain ⟨P, hP⟩ : ∃ P, P = p * 10 ^ k % 1000000 := ⟨_, rfl⟩
            have hPl : P < 1000000 := by rw [hP]; exact Nat.mod_lt _ (by omega)
            rw [← hP] at hz ⊢
            have HP := Lib.hid hP
            have HK2 := Lib.hid hk2
            have htl : (B ++ (D6 p).take k).length = B.length + k := by
              rw [List.length_append, List.length_take]
              have : (D6 p).length = 6 := rfl
              omega
            obtain ⟨T, hT⟩ : ∃ T, T = B ++ (D6 p).take k := ⟨_, rfl⟩
            rw [← hT] at htl ⊢
            have HTT := Lib.hid hT
            clear hP hk2 hT
            by_cases hP0 : 0 < P
            · have hPI : (P : Int) > 0 := by omega
              have hk6 : k < 6 := by omega
              have hkc : k < cut6 p := by omega
              obtain ⟨e, he⟩ : ∃ e, e = P * 10 / 1000000 := ⟨_, rfl⟩
              have he10 : e < 10 := by omega
              obtain ⟨P', hP'⟩ : ∃ P', P' = P * 10 % 1000000 := ⟨_, rfl⟩
              have g3 : ((P : Int) * 10).tdiv 1000000 = (e : Int) := by rw [show (P : Int) * 10 = ((P * 10 : Nat) : Int) by omega, he]; rfl
              have g4 : ((P : Int) * 10).tmod 1000000 = (P' : Int) := by rw [show (P : Int) * 10 = ((P * 10 : Nat) : Int) by omega, hP']; rfl
              have hcv3 := conv1 wr e he10
              have HE := Lib.hid (And.intro he hP')
              clear he hP' hcv hz
              go_wp2
              go_roundw
              case rel =>
                refine ⟨k + 1, by omega, ?_, ?_, HK2.out.alloc _⟩
                · rw [HE.out.2, HP.out, part_next]
                · refine (cat_snoc e T).trans ?_
                  have e1 : UInt8.ofNat (48 + e) = dg6 p k := by unfold dg6; rw [HE.out.1, HP.out, part_digit hpn hk6]
                  rw [HTT.out, e1, take_D6 hk6, List.append_assoc]
              case measure =>
                have e1 : sl (Value.string (({ data := T.toArray } : ByteArray) ++ { data := #[48 + UInt8.ofNat e] })) = T.length + 1 := by rw [cat_snoc e T, sl_tx, List.length_append]; rfl
                rw [e1, sl_tx]
                omega
            · have hPI : ¬ (P : Int) > 0 := by omega
              have hkc : k = cut6 p := by omega
              clear hz hcv
              go_wp2
              go_ret
              refine ⟨?_, HK2.out⟩
              rw [HD.out, HT.out.1, if_neg hp0, HTT.out, HBB.out, hkc]
              simp
  · have hm : m = (n : Int) := by omega
    rw [if_neg hneg] at hsn
    clear hdeg hn hq hp hneg
    subst hm
    subst hsn
    have hnI : ¬ (n : Int) < 0 := by omega
    go_enter Tryz.func32, Tryz.ntmps32
    go_wp2
    go_loopw [5, 7] (fun x y wr => ∃ (Q : Nat) (ds : List UInt8), x = .int .i64 (Q : Int) ∧ y = tx ds ∧ Q ≤ q ∧ decDigits q = decDigits Q ++ ds ∧ Keeps (fun _ => False) w wr) (fun x _ _ => (intOf x).toNat)
    case atStart => exact ⟨q, [], rfl, rfl, Nat.le_refl _, by simp, Keeps.refl _ _⟩
    case round =>
      obtain ⟨Q, ds, rfl, rfl, hQ, hds, hk⟩ := hrel
      have HS := Lib.hid (And.intro hds hk)
      have g1 : (Q : Int).tdiv 10 = ((Q / 10 : Nat) : Int) := rfl
      have g2 : (Q : Int).tmod 10 = ((Q % 10 : Nat) : Int) := rfl
      obtain ⟨d, hd⟩ : ∃ d, d = Q % 10 := ⟨_, rfl⟩
      have hd10 : d < 10 := by omega
      rw [← hd] at g2
      have hcv := conv1 wr d hd10
      have HQ := Lib.hid hd
      have hdl : ds.length ≤ 4 := by
        have e := congrArg List.length hds
        rw [List.length_append] at e
        have := dec_len hqn
        omega
      clear hds hk hd
      by_cases hbig : 9 < Q
      · have hbI : (Q : Int) > 9 := by omega
        go_wp2
        go_roundw
        case rel =>
          refine ⟨Q / 10, UInt8.ofNat (48 + d) :: ds, rfl, cat_one d ds, by omega, ?_, HS.out.2.alloc _⟩
          rw [HS.out.1, dec_big (u := Q) (by omega), HQ.out]
          simp
        case measure => simp only [intOf]; omega
      · have hbI : ¬ (Q : Int) > 9 := by omega
        have hQ9 : Q < 10 := by omega
        have hdQ : d = Q := by rw [HQ.out]; omega
        subst hdQ
        have hdq : decDigits q = UInt8.ofNat (48 + d) :: ds := by rw [HS.out.1, dec_small hQ9]; rfl
        have HT := Lib.hid (And.intro hdq HS.out.2)
        clear hdq
        by_cases hp0 : p = 0
        · subst hp0
          go_wp2
          go_ret
          refine ⟨?_, HT.out.2.alloc _⟩
          rw [HD.out, HT.out.1, if_pos trivial, List.append_nil]
          exact congrArg Ending.returned (cat3 [] ds d)
        · have hpI : ¬ (p : Int) = 0 := by omega
          obtain ⟨B, hB⟩ : ∃ B, B = ([] ++ UInt8.ofNat (48 + d) :: ds) ++ [46] := ⟨_, rfl⟩
          have hBl : B.length ≤ 7 := by rw [hB]; simp; omega
          have HBB := Lib.hid hB
          clear hB
          go_wp2
          go_loopw [4, 6] (fun o x wr2 => ∃ k : Nat, k ≤ cut6 p ∧ x = .int .i64 ((p * 10 ^ k % 1000000 : Nat) : Int) ∧ o = tx (B ++ (D6 p).take k) ∧ Keeps (fun _ => False) w wr2) (fun o _ _ => B.length + 6 - sl o)
          case atStart => exact ⟨0, Nat.zero_le _, by rw [Nat.pow_zero, Nat.mul_one, Nat.mod_eq_of_lt hpn], (cat4 [] ds d).trans (by rw [HBB.out, List.take_zero, List.append_nil]), HT.out.2.alloc _⟩
          case round =>
            obtain ⟨k, hk, rfl, rfl, hk2⟩ := hrel
            have hc6 := cut6_le p
            have hz := part_zero hpn (Nat.le_trans hk hc6)
            obtain ⟨P, hP⟩ : ∃ P, P = p * 10 ^ k % 1000000 := ⟨_, rfl⟩
            have hPl : P < 1000000 := by rw [hP]; exact Nat.mod_lt _ (by omega)
            rw [← hP] at hz ⊢
            have HP := Lib.hid hP
            have HK2 := Lib.hid hk2
            have htl : (B ++ (D6 p).take k).length = B.length + k := by
              rw [List.length_append, List.length_take]
              have : (D6 p).length = 6 := rfl
              omega
            obtain ⟨T, hT⟩ : ∃ T, T = B ++ (D6 p).take k := ⟨_, rfl⟩
            rw [← hT] at htl ⊢
            have HTT := Lib.hid hT
            clear hP hk2 hT
            by_cases hP0 : 0 < P
            · have hPI : (P : Int) > 0 := by omega
              have hk6 : k < 6 := by omega
              have hkc : k < cut6 p := by omega
              obtain ⟨e, he⟩ : ∃ e, e = P * 10 / 1000000 := ⟨_, rfl⟩
              have he10 : e < 10 := by omega
              obtain ⟨P', hP'⟩ : ∃ P', P' = P * 10 % 1000000 := ⟨_, rfl⟩
              have g3 : ((P : Int) * 10).tdiv 1000000 = (e : Int) := by rw [show (P : Int) * 10 = ((P * 10 : Nat) : Int) by omega, he]; rfl
              have g4 : ((P : Int) * 10).tmod 1000000 = (P' : Int) := by rw [show (P : Int) * 10 = ((P * 10 : Nat) : Int) by omega, hP']; rfl
              have hcv3 := conv1 wr e he10
              have HE := Lib.hid (And.intro he hP')
              clear he hP' hcv hz
              go_wp2
              go_roundw
              case rel =>
                refine ⟨k + 1, by omega, ?_, ?_, HK2.out.alloc _⟩
                · rw [HE.out.2, HP.out, part_next]
                · refine (cat_snoc e T).trans ?_
                  have e1 : UInt8.ofNat (48 + e) = dg6 p k := by unfold dg6; rw [HE.out.1, HP.out, part_digit hpn hk6]
                  rw [HTT.out, e1, take_D6 hk6, List.append_assoc]
              case measure =>
                have e1 : sl (Value.string (({ data := T.toArray } : ByteArray) ++ { data := #[48 + UInt8.ofNat e] })) = T.length + 1 := by rw [cat_snoc e T, sl_tx, List.length_append]; rfl
                rw [e1, sl_tx]
                omega
            · have hPI : ¬ (P : Int) > 0 := by omega
              have hkc : k = cut6 p := by omega
              clear hz hcv
              go_wp2
              go_ret
              refine ⟨?_, HK2.out⟩
              rw [HD.out, HT.out.1, if_neg hp0, HTT.out, HBB.out, hkc]
              simp
end Dg
end Go.Proofs.YtdhelpbhbhihaaaGreatDoor
