/-
  DgA: the document's walks over a text: digit, run.
-/
import Derived.Test.YtdhelpbhbhihaaaGreatDoorDgP
import Derived.Test.YtdhelpbhbhihaaaGreatDoorRlA
import Derived.Handy
namespace Go.Proofs.YtdhelpbhbhihaaaGreatDoor
open Go.RowKit
set_option linter.unusedVariables false
set_option linter.unusedSimpArgs false
attribute [local go_sem] Oper.semAt_some
namespace Dg
open Mem
abbrev tx (l : List UInt8) : Value := .string ⟨l.toArray⟩
theorem digit_t (b : UInt8) (w : World) : Calls Tryz.prog 52 #[.int .u8 (b.toNat : Int)] w fun e w' => e = .returned (.bool (isD b)) ∧ w = w' := by
  by_cases h1 : 48 ≤ b.toNat
  · by_cases h2 : b.toNat ≤ 57
    · have e : isD b = true := by rw [isD_iff]; exact ⟨h1, h2⟩
      rw [e]
      generalize b.toNat = x at *
      have i1 : (48 : Int) ≤ (x : Int) := by omega
      have i2 : decide ((x : Int) ≤ 57) = true := decide_eq_true (by omega)
      go_enter Tryz.func52, Tryz.ntmps52
      go_wp2
      go_ret
      exact ⟨rfl, rfl⟩
    · have e : isD b = false := by rw [← Bool.not_eq_true, isD_iff]; omega
      rw [e]
      generalize b.toNat = x at *
      have i1 : (48 : Int) ≤ (x : Int) := by omega
      have i2 : decide ((x : Int) ≤ 57) = false := decide_eq_false (by omega)
      go_enter Tryz.func52, Tryz.ntmps52
      go_wp2
      go_ret
      exact ⟨rfl, rfl⟩
  · have e : isD b = false := by rw [← Bool.not_eq_true, isD_iff]; omega
    rw [e]
    generalize b.toNat = x at *
    have i1 : ¬ (48 : Int) ≤ (x : Int) := by omega
    go_enter Tryz.func52, Tryz.ntmps52
    go_wp2
    go_ret
    exact ⟨rfl, rfl⟩
theorem byte_at {l : List UInt8} {j : Nat} {b : UInt8} (h : l[j]? = some b) : ∀ hh, (({ data := l.toArray } : ByteArray)[j]'hh) = b := by
  intro hh
  have h1 := (List.getElem?_eq_some_iff.1 h).2
  exact h1
/-- how many digits stand from a place on -/
def rn (l : List UInt8) (i : Nat) : Nat := ((l.drop i).takeWhile isD).length
theorem rn_digit {l : List UInt8} {i : Nat} {b : UInt8} (h : l[i]? = some b) (hb : isD b = true) : rn l i = rn l (i + 1) + 1 := by
  have hi := (List.getElem?_eq_some_iff.1 h).1
  have e : l.drop i = b :: l.drop (i + 1) := by
    rw [List.drop_eq_getElem_cons hi, (List.getElem?_eq_some_iff.1 h).2]
  unfold rn
  rw [e, List.takeWhile_cons, hb]
  rfl
theorem rn_other {l : List UInt8} {i : Nat} {b : UInt8} (h : l[i]? = some b) (hb : isD b = false) : rn l i = 0 := by
  have hi := (List.getElem?_eq_some_iff.1 h).1
  have e : l.drop i = b :: l.drop (i + 1) := by
    rw [List.drop_eq_getElem_cons hi, (List.getElem?_eq_some_iff.1 h).2]
  unfold rn
  rw [e, List.takeWhile_cons, hb]
  rfl
theorem rn_end {l : List UInt8} {i : Nat} (h : l.length ≤ i) : rn l i = 0 := by
  unfold rn
  rw [List.drop_eq_nil_of_le h]
  rfl
set_option maxHeartbeats 1000000 in
theorem run_t (l : List UInt8) (i : Nat) (hi : i ≤ l.length) (hl : l.length ≤ 64) (w : World) : Calls Tryz.prog 51 #[tx l, .int .i64 (i : Int)] w fun e w' => e = .returned (.int .i64 ((i + rn l i : Nat) : Int)) ∧ w = w' := by
  obtain ⟨n, hn⟩ : ∃ n, n = l.length := ⟨_, rfl⟩
  go_enter Tryz.func51, Tryz.ntmps51
  go_wp2
  go_loopw [1] (fun q wr => ∃ j : Nat, q = .int .i64 (j : Int) ∧ j ≤ l.length ∧ j + rn l j = i + rn l i ∧ w = wr) (fun q _ => l.length - (intOf q).toNat)
  case atStart => exact ⟨i, rfl, hi, rfl, rfl⟩
  case round =>
    obtain ⟨j, rfl, hj, hr, rfl⟩ := hrel
    have HR := Lib.hid hr
    clear hr
    by_cases hlt : j < l.length
    · obtain ⟨b, hb⟩ : ∃ b, l[j]? = some b := ⟨_, List.getElem?_eq_getElem hlt⟩
      have hbj := byte_at hb
      have hd := digit_t b
      have HB := Lib.hid hb
      cases hD : isD b with
      | true =>
        rw [hD] at hd
        have HD := Lib.hid hD
        clear hb hD
        go_wp2_with (go_at_call 52; with_reducible refine (hd _).mono ?_; rintro e w5 ⟨rfl, rfl⟩)
        go_roundw
        case rel =>
          have e := rn_digit HB.out HD.out
          have e2 := HR.out
          exact ⟨j + 1, by rw [Int.natCast_add]; rfl, by omega, by omega, by first | rfl | trivial⟩
        case measure => simp only [intOf]; omega
      | false =>
        rw [hD] at hd
        have HD := Lib.hid hD
        clear hb hD
        go_wp2_with (go_at_call 52; with_reducible refine (hd _).mono ?_; rintro e w5 ⟨rfl, rfl⟩)
        go_ret
        have e := rn_other HB.out HD.out
        have e2 := HR.out
        have e3 : j = i + rn l i := by omega
        exact ⟨by rw [e3, Int.natCast_add]; rfl, rfl⟩
    · go_wp2
      go_ret
      have e := rn_end (l := l) (i := j) (by omega)
      have e2 := HR.out
      have e3 : j = i + rn l i := by omega
      exact ⟨by rw [e3, Int.natCast_add]; rfl, rfl⟩
/-- the ways a text is gone through -/
def sg (l : List UInt8) : Nat := if negOf l = true then 1 else 0
inductive MicWay (l : List UInt8) : Int × Int → Prop
  | none : rn l (sg l) = 0 → MicWay l (0, 22)
  | plain : 0 < rn l (sg l) → sg l + rn l (sg l) = l.length → MicWay l (fin (negOf l) (num 0 (l.drop (sg l)) * 10 ^ 6))
  | other (c : UInt8) : 0 < rn l (sg l) → l[sg l + rn l (sg l)]? = some c → c ≠ 46 → MicWay l (0, 22)
  | bare : 0 < rn l (sg l) → l[sg l + rn l (sg l)]? = some 46 → rn l (sg l + rn l (sg l) + 1) = 0 → MicWay l (0, 22)
  | long : 0 < rn l (sg l) → l[sg l + rn l (sg l)]? = some 46 → 6 < rn l (sg l + rn l (sg l) + 1) → MicWay l (0, 22)
  | more : 0 < rn l (sg l) → l[sg l + rn l (sg l)]? = some 46 → 0 < rn l (sg l + rn l (sg l) + 1) → rn l (sg l + rn l (sg l) + 1) ≤ 6 → sg l + rn l (sg l) + 1 + rn l (sg l + rn l (sg l) + 1) < l.length → MicWay l (0, 22)
  | point : 0 < rn l (sg l) → l[sg l + rn l (sg l)]? = some 46 → 0 < rn l (sg l + rn l (sg l) + 1) → rn l (sg l + rn l (sg l) + 1) ≤ 6 → sg l + rn l (sg l) + 1 + rn l (sg l + rn l (sg l) + 1) = l.length → MicWay l (fin (negOf l) (num 0 (l.drop (sg l)) * 10 ^ (6 - rn l (sg l + rn l (sg l) + 1))))
theorem body_drop (l : List UInt8) : body l = l.drop (sg l) := by
  unfold body sg
  split <;> simp
theorem takeWhile_len_all {B : List UInt8} (h : (B.takeWhile isD).length = B.length) : B.all isD = true := by
  induction B with
  | nil => rfl
  | cons b B ih =>
    rw [List.takeWhile_cons] at h
    split at h
    · rename_i hb
      rw [List.all_cons, hb, ih (by simpa using h)]
      rfl
    · simp at h
theorem takeWhile_all_len {B : List UInt8} (h : B.all isD = true) : (B.takeWhile isD).length = B.length := by
  induction B with
  | nil => rfl
  | cons b B ih =>
    rw [List.all_cons, Bool.and_eq_true] at h
    rw [List.takeWhile_cons, if_pos h.1, List.length_cons, List.length_cons, ih h.2]
theorem takeWhile_le (B : List UInt8) : (B.takeWhile isD).length ≤ B.length := by
  induction B with
  | nil => simp
  | cons b B ih =>
    rw [List.takeWhile_cons]
    split
    · simp; omega
    · simp
theorem mic_way (l : List UInt8) (hl : l.length ≤ 64) : MicWay l (mic l) := by
  have hb := body_drop l
  have hA : (ahd l).length = rn l (sg l) := by unfold ahd rn; rw [hb]
  have hAR : ahd l ++ rst l = l.drop (sg l) := by unfold ahd rst; rw [hb, List.takeWhile_append_dropWhile]
  have hsg : sg l ≤ l.length := by
    unfold sg
    split
    · rename_i h
      cases l with
      | nil => simp [negOf] at h
      | cons a l => simp
    · omega
  have hlen : sg l + rn l (sg l) + (rst l).length = l.length := by
    have := congrArg List.length hAR
    rw [List.length_append, List.length_drop, hA] at this
    omega
  have hat : l.drop (sg l + rn l (sg l)) = rst l := by
    rw [← List.drop_drop, ← hAR, ← hA, List.drop_left]
  have hD : (ahd l).all isD = true := by
    unfold ahd
    generalize body l = b
    induction b with
    | nil => rfl
    | cons x b ih =>
      rw [List.takeWhile_cons]
      split
      · rename_i hx; rw [List.all_cons, hx, ih]; rfl
      · rfl
  unfold mic
  rw [if_neg (by omega)]
  by_cases h0 : ahd l = []
  · rw [if_pos h0]
    rw [h0] at hA
    exact .none hA.symm
  · rw [if_neg h0]
    have hpos : 0 < rn l (sg l) := by rw [← hA]; exact List.length_pos_iff.2 h0
    cases hR : rst l with
    | nil =>
      rw [hR] at hlen hAR
      simp only []
      have e : micV (ahd l) [] = num 0 (l.drop (sg l)) * 10 ^ 6 := by
        unfold micV
        rw [← hAR, List.append_nil]
        rfl
      rw [e]
      exact .plain hpos (by simpa using hlen)
    | cons c B =>
      rw [hR] at hlen hAR hat
      simp only []
      have hc : l[sg l + rn l (sg l)]? = some c := by
        have := congrArg (fun q => q[0]?) hat
        simpa using this
      have hB : l.drop (sg l + rn l (sg l) + 1) = B := by
        rw [← List.drop_drop, hat]
        rfl
      have hm : rn l (sg l + rn l (sg l) + 1) = (B.takeWhile isD).length := by
        show ((l.drop (sg l + rn l (sg l) + 1)).takeWhile isD).length = _
        rw [hB]
      have hle := takeWhile_le B
      rw [List.length_cons] at hlen
      by_cases h46 : c = 46
      · subst h46
        by_cases h1 : (B.takeWhile isD).length = 0
        · rw [if_neg]
          · exact .bare hpos hc (by rw [hm]; exact h1)
          · rintro ⟨_, hne, hall, _⟩
            rw [takeWhile_all_len hall] at h1
            exact hne (List.length_eq_zero_iff.1 h1)
        · by_cases h2 : 6 < (B.takeWhile isD).length
          · rw [if_neg]
            · exact .long hpos hc (by rw [hm]; exact h2)
            · rintro ⟨_, _, _, h6⟩
              omega
          · by_cases h3 : (B.takeWhile isD).length = B.length
            · have hall := takeWhile_len_all h3
              rw [if_pos ⟨rfl, by rintro rfl; simp at h1, hall, by omega⟩]
              have e : micV (ahd l) B = num 0 (l.drop (sg l)) * 10 ^ (6 - rn l (sg l + rn l (sg l) + 1)) := by
                unfold micV
                rw [hm, h3, ← hAR, num_app, num_cons]
                rfl
              rw [e]
              exact .point hpos hc (by omega) (by omega) (by omega)
            · rw [if_neg]
              · exact .more hpos hc (by omega) (by omega) (by omega)
              · rintro ⟨_, _, hall, _⟩
                exact h3 (takeWhile_all_len hall)
      · rw [if_neg (fun h => h46 h.1)]
        exact .other c hpos hc h46
end Dg
end Go.Proofs.YtdhelpbhbhihaaaGreatDoor
