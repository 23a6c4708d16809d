/-
  DgE: the package's reading of millionths.
-/
import Derived.Test.YtdhelpbhbhihaaaGreatDoorDgD
import Derived.Shelf.Strings.Repeat
import Derived.Shelf.Strings.BuilderX
import Derived.Deep.RegionHeld3
namespace Go.Proofs
open Go.Shelf
shelf_lay Lays.n105 Nm 105 at Tryz as Tryz.lays105
end Go.Proofs
namespace Go.Proofs.YtdhelpbhbhihaaaGreatDoor
open Go.RowKit Go.Shelf Go.Lib
set_option linter.unusedVariables false
set_option linter.unusedSimpArgs false
attribute [local go_sem] Oper.semAt_some
namespace Dg
open Mem
theorem extra105 : Builder.Extra Tryz.prog Tryz.lays105_ren where
  sizeBuilder := by kernel_rfl
  liesBuilder := by kernel_rfl
  t5 := by kernel_rfl
  a5 := Tryz.isAgg5
  z5 := Tryz.sizeOf5
  v5 := Tryz.zeroValue5
  infoByte := by kernel_rfl
  cellsByte := by kernel_rfl
  sizeByte := by kernel_rfl
  neB5 := by decide
theorem rep_t (c : Nat) (hc : c ≤ 6) (w : World) : Calls Tryz.prog 50 #[.string ⟨#[48]⟩, .int .i64 c] w fun e w' => e = .returned (.string ⟨(repeatL [48] c).toArray⟩) ∧ Below w.heap.size w w' :=
  Any.strings_Repeat Tryz.lays105 extra105 ⟨#[48]⟩ c w (by omega) (by have : (⟨#[48]⟩ : ByteArray).size = 1 := rfl; rw [this]; omega)
theorem join_one {P : Program} {c : Code} {K : Act → World → Prop} {Q : Exit → Act → World → Prop} {a A : Act} {w W : World} (h : c.wp P (Exit.then (fun a' w' => a' = A ∧ w' = W) (fun _ _ _ => False)) a w) (k : K A W) : c.wp P (Exit.then K Q) a w :=
  Code.wp_mono (fun e a' w' he => by
    cases e with
    | normal => obtain ⟨rfl, rfl⟩ := he; exact k
    | _ => exact he.elim) h
theorem ex_tx (l : List UInt8) (a b : Nat) : (({ data := l.toArray } : ByteArray).extract a b) = { data := ((l.drop a).take (b - a)).toArray } := by
  have h := extract_toList ({ data := l.toArray } : ByteArray) a b
  rw [toList_data] at h
  apply ByteArray.ext
  apply Array.toList_inj.1
  exact h
theorem idx_cut (l : List UInt8) : (cutR l = [] ∧ indexByte l 46 = -1) ∨ (∃ B, cutR l = 46 :: B ∧ indexByte l 46 = ((cutA l).length : Int)) := by
  induction l with
  | nil => exact .inl ⟨rfl, rfl⟩
  | cons x l ih =>
    unfold cutR cutA at ih ⊢
    rw [List.dropWhile_cons, List.takeWhile_cons]
    by_cases h : np x = true
    · have hx : (x == 46) = false := by simpa [np] using h
      rw [if_pos h, if_pos h]
      unfold indexByte
      rw [hx]
      rcases ih with ⟨h1, h2⟩ | ⟨B, h1, h2⟩
      · exact .inl ⟨h1, by rw [h2]; rfl⟩
      · refine .inr ⟨B, h1, ?_⟩
        rw [h2]
        have e : (((l.takeWhile np).length : Int) == -1) = false := by rw [beq_eq_false_iff_ne]; omega
        simp [e]
    · have hx : x = 46 := by simpa [np] using h
      subst hx
      rw [if_neg h, if_neg h]
      exact .inr ⟨l, rfl, rfl⟩
theorem index_t (l : List UInt8) (w : World) : Calls Tryz.prog 86 #[tx l, .string ⟨#[46]⟩] w fun e w' => e = .returned (.int .i64 (indexByte l 46)) ∧ w' = w := by
  by_cases hl : l = [46]
  · subst hl
    go_enter Tryz.func86, Tryz.ntmps86
    go_wp2
    go_ret
    exact ⟨by kernel_rfl, rfl⟩
  · have c1 := ib_t ⟨l.toArray⟩ w
    have hb1 : ∀ h, (({ data := #[46] } : ByteArray)[0]'h) = 46 := fun _ => rfl
    have hne : (({ data := #[46] } : ByteArray).toList == ({ data := l.toArray } : ByteArray).toList) = false := by
      rw [toList_data, toList_data, beq_eq_false_iff_ne]
      exact fun e => hl e.symm
    have hl2 : ¬ [46] = l := fun e => hl e.symm
    have hl3 : ([46] == l) = false := beq_eq_false_iff_ne.2 hl2
    have hl4 : (l == [46]) = false := beq_eq_false_iff_ne.2 hl
    go_enter Tryz.func86, Tryz.ntmps86
    go_wp2_with (go_at_call 108; refine c1.mono ?_; rintro e w' ⟨rfl, rfl⟩)
    go_ret
    exact ⟨rfl, rfl⟩
theorem lcut_t (l : List UInt8) (hl : l.length ≤ 64) (w : World) : Calls Tryz.prog 64 #[tx l, .string ⟨#[46]⟩] w fun e w' => e = .returned (.tuple #[tx (cutA l), tx ((cutR l).drop 1), .bool (decide (cutR l ≠ []))]) ∧ Keeps (fun _ => False) w w' := by
  have c1 := index_t l w
  rcases idx_cut l with ⟨h1, h2⟩ | ⟨B, h1, h2⟩
  · rw [h2] at c1
    rw [h1]
    have h3 : cutA l = l := by
      have := cut_app l
      rw [h1, List.append_nil] at this
      exact this
    rw [h3]
    clear h1 h2 h3
    go_enter Tryz.func64, Tryz.ntmps64
    go_wp2_with (go_at_call 86; with_reducible refine c1.mono ?_; rintro e w' ⟨rfl, rfl⟩)
    exact bodyPost_ret (results_tmp3 rfl _ _ _) rfl ⟨rfl, Keeps.refl _ _⟩
  · rw [h2] at c1
    rw [h1]
    have h3 := cut_app l
    rw [h1] at h3
    obtain ⟨k, hk⟩ : ∃ k, k = (cutA l).length := ⟨_, rfl⟩
    rw [← hk] at c1
    have hkl : k + 1 + B.length = l.length := by
      have := congrArg List.length h3
      rw [List.length_append, List.length_cons] at this
      omega
    have i1 : (k : Int) + 1 ≤ (l.length : Int) := by omega
    have i2 : (0 : Int) ≤ (k : Int) := by omega
    have i3 : k ≤ l.length := by omega
    have i4 : k + 1 ≤ l.length := by omega
    have i5 : ((k : Int) + 1).toNat = k + 1 := by omega
    have i6 : ((k : Int) + 1).toNat ≤ l.length := by omega
    have i7 : IntKind.i64.wrap ((k : Int) + 1) = (k : Int) + 1 := IntWalk.i64_in _ (by omega)
    have i8 : (0 : Int) ≤ (k : Int) + 1 := by omega
    have HK := Lib.hid hk
    clear hk
    go_enter Tryz.func64, Tryz.ntmps64
    go_wp2_with (go_at_call 86; with_reducible refine c1.mono ?_; rintro e w' ⟨rfl, rfl⟩)
    apply join_one
    · go_region_held3 (fun _ => True) (trivial) (first | fail)
      all_goals exact ⟨rfl, rfl⟩
    go_wp2
    have e1 : l.take k = cutA l := by
      have h : (cutA l ++ 46 :: B).take (cutA l).length = cutA l := List.take_left
      rw [h3, ← HK.out] at h
      exact h
    have e2 : l.drop (k + 1) = B := by
      have h : (cutA l ++ 46 :: B).drop (cutA l).length = 46 :: B := List.drop_left
      rw [h3, ← HK.out] at h
      rw [← List.drop_drop, h]
      rfl
    have f1 := ex_tx l 0 k
    have f2 := ex_tx l (k + 1) l.length
    rw [List.drop_zero, Nat.sub_zero, e1] at f1
    rw [e2, List.take_of_length_le (by omega)] at f2
    refine bodyPost_ret (results_tmp3 rfl _ _ _) rfl ⟨?_, (Keeps.refl _ _).drew⟩
    show Ending.returned (.tuple #[.string (({ data := l.toArray } : ByteArray).extract 0 k), .string (({ data := l.toArray } : ByteArray).extract (k + 1) l.length), .bool true]) = _
    rw [f1, f2]
    rfl
end Dg
end Go.Proofs.YtdhelpbhbhihaaaGreatDoor
