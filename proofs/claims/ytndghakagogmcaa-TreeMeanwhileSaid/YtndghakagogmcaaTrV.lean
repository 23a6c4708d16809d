/-
  TrV: told of a tree's walk; sameNumbers.
-/
import Derived.Test.YtndghakagogmcaaTrU
namespace Go.Proofs.Ytndghakagogmcaa
open Go.RowKit Go.Shelf
set_option linter.unusedVariables false
set_option linter.unusedSimpArgs false
attribute [local go_sem] Oper.semAt_some
namespace Tree
open Mem BT
def rangeL (L : List (Nat × Bx)) (c : Bx) : List Nat := (L.filter fun p => p.2.meet c).map (·.1)
theorem hits_range (c : Bx) (t : BT) : idsOf (hits c t) = rangeL (inord t) c := by
  unfold idsOf hits rangeL
  rw [← nodes_inord, List.filter_map, List.map_map]
  rfl
theorem told_tree (w : World) (T : Nat) (S : Nat → Prop) (L : List (Nat × Bx)) (B1 B2 : Nat) (c : Bx) (most : Int) (h1 : Blk w B1 48 [.pointer (some ⟨T, 0, none⟩)]) (h2 : Blk w B2 47 [.int .i32 c.x0, .int .i32 c.y0, .int .i32 c.x1, .int .i32 c.y1]) (h : TrS w T S L) :
    Calls Try.prog 27 #[.func (.func 47) #[] #[.pointer (some ⟨B1, 0, none⟩), .pointer (some ⟨B2, 0, none⟩)], .int .i64 most] w (Fresh w (cut most (rangeL L c))) := by
  have hl : (rangeL L c).length ≤ 1000000 := by
    obtain ⟨r, t, hH, hM, he, hR, hI, hl, hS⟩ := h
    have := List.length_filter_le (fun p : Nat × Bx => p.2.meet c) L
    unfold rangeL
    rw [List.length_map]
    omega
  refine told_any 47 _ most (rangeL L c) w (fun _ => True) hl (enters_of Try.func47 (by kernel_rfl) rfl) (fun W1 hk => ?_) (fun _ _ => trivial)
  refine range1_gives 8 B1 B2 _ c _ W1 hl (h1.keeps hk (fun h => h)) (h2.keeps hk (fun h => h)) ?_
  obtain ⟨r, t, hH, hM, he, hR, hI, hl', hS⟩ := h.kd hk
  have hf := hits_range c t
  rw [he] at hf
  have := found_t T r t c W1 hH (by
    have e : (hits c t).length = (rangeL L c).length := by rw [← hf]; simp [idsOf]
    omega)
  rw [hf] at this
  exact this
def Same (b : Bool) (w : World) (e : Ending) (w' : World) : Prop := e = .returned (.bool b) ∧ Keeps (fun _ => False) w w'
set_option maxHeartbeats 4000000 in
set_option maxRecDepth 100000 in
theorem same_t (v1 v2 : Value) (xs ys : List Nat) (w : World) (h1 : U32s w v1 xs) (h2 : U32s w v2 ys) (l1 : (xs.length : Int) ≤ 1000000) (l2 : (ys.length : Int) ≤ 1000000) :
    Calls Try.prog 26 #[v1, v2] w (Same (decide (xs = ys)) w) := by
  obtain ⟨a1, c1, rfl, f1⟩ := h1
  obtain ⟨a2, c2, rfl, f2⟩ := h2
  have HF1 := Lib.hid f1; clear f1
  have HF2 := Lib.hid f2; clear f2
  by_cases hlen : xs.length = ys.length
  · have hlI : ((xs.length : Nat) : Int) = ((ys.length : Nat) : Int) := by omega
    go_enter Try.func26, Try.ntmps26
    go_wp2
    go_loopw [5] (fun p wr => ∃ i : Nat, i ≤ xs.length ∧ p = .int .i64 (i : Int) ∧ xs.take i = ys.take i ∧ Keeps (fun _ => False) w wr) (fun p _ => xs.length - (intOf p).toNat)
    case atStart => exact ⟨0, Nat.zero_le _, rfl, by simp, Keeps.refl _ _⟩
    case round =>
      obtain ⟨i, hi, rfl, htk, hk⟩ := hrel
      by_cases hlt : i < xs.length
      · obtain ⟨b1, o1, rfl, g1⟩ := HF1.out i xs[i] (List.getElem?_eq_getElem hlt)
        have hlt2 : i < ys.length := by omega
        obtain ⟨b2, o2, rfl, g2⟩ := HF2.out i ys[i] (List.getElem?_eq_getElem hlt2)
        have g1' := hk.cell (p := ⟨b1, o1 + i, none⟩) g1 (fun h => h)
        have g2' := hk.cell (p := ⟨b2, o2 + i, none⟩) g2 (fun h => h)
        have hii : (i : Int) < xs.length := by omega
        have hii2 : (i : Int) < ys.length := by omega
        have hnat : (0 : Int) ≤ i := by omega
        obtain ⟨x, hx⟩ : ∃ x, x = xs[i] := ⟨_, rfl⟩
        obtain ⟨y, hy⟩ : ∃ y, y = ys[i] := ⟨_, rfl⟩
        rw [← hx] at g1'
        rw [← hy] at g2'
        have HT := Lib.hid (show xs.take i = ys.take i ∧ xs[i] = x ∧ ys[i] = y from ⟨htk, hx.symm, hy.symm⟩)
        have HK := Lib.hid hk
        clear g1 g2 hx hy htk hk
        by_cases hxy : x = y
        · subst hxy
          go_wp2
          go_region
          all_goals
            go_wp2
            go_roundw
            case rel => exact ⟨i + 1, by omega, by go_num, by rw [← List.take_append_getElem hlt, ← List.take_append_getElem hlt2, HT.out.1, HT.out.2.1, HT.out.2.2], HK.out.drew⟩
            case measure => simp [intOf]; omega
        · go_wp2
          go_region
          all_goals
            go_wp2
            go_ret
            have hne : xs ≠ ys := by
              rintro rfl
              exact hxy (HT.out.2.1.symm.trans HT.out.2.2)
            exact ⟨by simp [hne], HK.out.drew⟩
      · obtain rfl : i = xs.length := by omega
        have HK := Lib.hid hk; clear hk
        have HT := Lib.hid htk; clear htk
        go_wp2
        go_ret
        have he : xs = ys := by
          have := HT.out
          rw [List.take_length, hlen, List.take_length] at this
          exact this
        exact ⟨by simp [he], HK.out⟩
  · have hne : xs ≠ ys := fun e => hlen (by rw [e])
    have hlI : ¬ ((xs.length : Nat) : Int) = ((ys.length : Nat) : Int) := by omega
    go_enter Try.func26, Try.ntmps26
    go_wp2
    go_ret
    exact ⟨by simp [hne], Keeps.refl _ _⟩
end Tree
end Go.Proofs.Ytndghakagogmcaa
