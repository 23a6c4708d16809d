/-
HxA: the document's answer: what it reckons with.
HxB: the document's answer: cells and has.
HxC: the document's grid: its list; at.
HxP: plain: the document's list and line and cells; no program in sight.
-/
import Derived.Test.YtdbpfbokfmpgcaaZbeGsZGtAGtB
import Derived.Deep.QuietTactic
import Derived.BigQuiet
namespace Go.Proofs.Ytdbpfbokfmpgcaa
open Go.RowKit Go.Shelf
set_option linter.unusedVariables false
set_option linter.unusedSimpArgs false
set_option linter.ambiguousOpen false
attribute [local go_sem] Oper.semAt_some
namespace Gx
open Mem Gr Gs
theorem floor2 {n d : Int} (hd : 1 ≤ d) : n / d = if Int.tdiv n d * d > n then Int.tdiv n d - 1 else Int.tdiv n d := by
  have e := Int.mul_tdiv_add_tmod n d
  rw [floor_eq hd]
  rw [Int.mul_comm] at e
  by_cases h : Int.tmod n d < 0
  · rw [if_pos h, if_pos (by omega)]
  · rw [if_neg h, if_neg (by omega)]
theorem tdiv_bd {n d : Int} (hd : 1 ≤ d) : (0 ≤ n → 0 ≤ Int.tdiv n d ∧ Int.tdiv n d ≤ n ∧ 0 ≤ Int.tdiv n d * d ∧ Int.tdiv n d * d ≤ n) ∧ (n ≤ 0 → n ≤ Int.tdiv n d ∧ Int.tdiv n d ≤ 0 ∧ n ≤ Int.tdiv n d * d ∧ Int.tdiv n d * d ≤ 0) := by
  have pos : ∀ m : Int, 0 ≤ m → 0 ≤ Int.tdiv m d ∧ Int.tdiv m d ≤ m ∧ 0 ≤ Int.tdiv m d * d ∧ Int.tdiv m d * d ≤ m := fun m hm => by
    have e : Int.tdiv m d = m / d := Int.tdiv_eq_ediv_of_nonneg hm
    rw [e]
    have h0 := Int.ediv_nonneg hm (show 0 ≤ d by omega)
    exact ⟨h0, Int.ediv_le_self _ hm, Int.mul_nonneg h0 (by omega), Int.ediv_mul_le _ (by omega)⟩
  refine ⟨pos n, fun hn => ?_⟩
  have h := pos (-n) (by omega)
  rw [Int.neg_tdiv, Int.neg_mul] at h
  omega
theorem down_t (n d : Int) (w : World) (hn : -4611686018427387904 ≤ n) (hn2 : n ≤ 4611686018427387904) (hd : 1 ≤ d) (hd2 : d ≤ 4611686018427387904) : Calls Try.prog 75 #[.int .i64 n, .int .i64 d] w fun e w' => e = .returned (.int .i64 (n / d)) ∧ w = w' := by
  have h0 : ¬ d = 0 := by omega
  have e := floor2 (n := n) hd
  have hb := tdiv_bd (n := n) hd
  obtain ⟨q, hq⟩ : ∃ q, q = Int.tdiv n d := ⟨_, rfl⟩
  obtain ⟨m, hm⟩ : ∃ m, m = q * d := ⟨_, rfl⟩
  rw [← hq, ← hm] at hb
  rw [← hq, ← hm] at e
  have w1 : -4611686018427387904 ≤ q ∧ q ≤ 4611686018427387904 ∧ -4611686018427387904 ≤ m ∧ m ≤ 4611686018427387904 := by
    rcases Int.le_total 0 n with h | h
    · have := hb.1 h; omega
    · have := hb.2 h; omega
  have hq' := hq.symm
  have hm' := hm.symm
  have u1 : IntKind.i64.wrap q = q := IntWalk.i64_in _ (by omega)
  have u2 : IntKind.i64.wrap m = m := IntWalk.i64_in _ (by omega)
  have u3 : IntKind.i64.wrap (q - 1) = q - 1 := IntWalk.i64_in _ (by omega)
  have HE := Lib.hid (And.intro e w1)
  clear e hb w1 hq hm
  go_enter Try.func75, Try.ntmps75
  go_wp2
  · go_ret
    rename_i h
    obtain ⟨e, hb⟩ := HE.out
    rw [if_pos (by simpa using h)] at e
    rw [e]
    exact ⟨rfl, rfl⟩
  · go_ret
    rename_i h
    obtain ⟨e, hb⟩ := HE.out
    rw [if_neg (by simpa using h)] at e
    rw [e]
    exact ⟨rfl, rfl⟩
theorem floor_r (v s : Int) (w : World) (hv : -1073741823 ≤ v) (hv2 : v ≤ 1073741823) (hs : Size s) : Calls Try.prog 20 #[.int .i32 v, .int .i64 s] w fun e w' => e = .returned (.int .i64 (v / s)) ∧ w = w' := by
  obtain ⟨hd, hd2⟩ := hs
  have h0 : ¬ s = 0 := by omega
  have e := floor2 (n := v) hd
  have hb := tdiv_bd (n := v) hd
  obtain ⟨q, hq⟩ : ∃ q, q = Int.tdiv v s := ⟨_, rfl⟩
  obtain ⟨m, hm⟩ : ∃ m, m = q * s := ⟨_, rfl⟩
  rw [← hq, ← hm] at hb
  rw [← hq, ← hm] at e
  have w1 : -1073741823 ≤ q ∧ q ≤ 1073741823 ∧ -1073741823 ≤ m ∧ m ≤ 1073741823 := by
    rcases Int.le_total 0 v with h | h
    · have := hb.1 h; omega
    · have := hb.2 h; omega
  have hq' := hq.symm
  have hm' := hm.symm
  have u0 : IntKind.i64.wrap v = v := IntWalk.i64_in _ (by omega)
  have u1 : IntKind.i64.wrap q = q := IntWalk.i64_in _ (by omega)
  have u2 : IntKind.i64.wrap m = m := IntWalk.i64_in _ (by omega)
  have u3 : IntKind.i64.wrap (q - 1) = q - 1 := IntWalk.i64_in _ (by omega)
  have HE := Lib.hid (And.intro e w1)
  clear e hb w1 hq hm
  go_enter Try.func20, Try.ntmps20
  go_wp2
  · go_ret
    rename_i h
    obtain ⟨e, hb⟩ := HE.out
    rw [if_pos (by simpa using h)] at e
    rw [e]
    exact ⟨rfl, rfl⟩
  · go_ret
    rename_i h
    obtain ⟨e, hb⟩ := HE.out
    rw [if_neg (by simpa using h)] at e
    rw [e]
    exact ⟨rfl, rfl⟩
theorem up_t (n d : Int) (w : World) (hn : -4611686018427387904 ≤ n) (hn2 : n ≤ 4611686018427387904) (hd : 1 ≤ d) (hd2 : d ≤ 4611686018427387904) : Calls Try.prog 83 #[.int .i64 n, .int .i64 d] w fun e w' => e = .returned (.int .i64 (-((-n) / d))) ∧ w = w' := by
  have z := down_t (-n) d
  have hb := ediv_in (n := -n) hd
  obtain ⟨q, hq⟩ : ∃ q, (-n) / d = q := ⟨_, rfl⟩
  rw [hq] at hb z
  have w1 : -4611686018427387904 ≤ q ∧ q ≤ 4611686018427387904 := by
    rcases Int.le_total 0 (-n) with h | h
    · have := hb.1 h; omega
    · have := hb.2 h; omega
  have u0 : IntKind.i64.wrap (-n) = -n := IntWalk.i64_in _ (by omega)
  have u1 : IntKind.i64.wrap (-q) = -q := IntWalk.i64_in _ (by omega)
  rw [hq]
  have HZ := Lib.hid (fun w => z w (by omega) (by omega) hd hd2)
  clear z hb hq
  go_enter Try.func83, Try.ntmps83
  go_wp2_with (go_at_call 75; (with_reducible refine (HZ.out _).mono ?_); rintro e w1 ⟨rfl, rfl⟩)
  go_ret
  exact ⟨rfl, rfl⟩
theorem rfits_t (s : Int) (w : World) : Calls Try.prog 73 #[.int .i64 s] w fun e w' => e = .returned (.bool (decide (Size s))) ∧ w = w' := by
  unfold Size
  by_cases h1 : 1 ≤ s <;> by_cases h2 : s ≤ 2147483648
  all_goals try (exfalso; omega)
  all_goals
    simp only [h1, h2, and_true, and_false, decide_true, decide_false]
    go_enter Try.func73, Try.ntmps73
    go_wp2
    go_ret
    exact ⟨rfl, rfl⟩
theorem rin11_t (x y : Int) (w : World) : Calls Try.prog 74 #[.agg #[.int .i32 x, .int .i32 y]] w fun e w' => e = .returned (.bool (decide (On x y))) ∧ w.alloc (.cells #[.int .i32 x, .int .i32 y] 33) = w' := by
  unfold On B0
  by_cases h1 : -1073741823 ≤ x <;> by_cases h2 : x ≤ 1073741823 <;> by_cases h3 : -1073741823 ≤ y <;> by_cases h4 : y ≤ 1073741823
  all_goals try (exfalso; omega)
  all_goals
    simp only [h1, h2, h3, h4, and_true, and_false, decide_true, decide_false]
    go_enter Try.func74, Try.ntmps74
    go_wp2
    go_ret
    exact ⟨rfl, rfl⟩
theorem rin_t (x y : Int) (w : World) : Calls Try.prog 19 #[.agg #[.int .i32 x, .int .i32 y]] w fun e w' => e = .returned (.bool (decide (On x y))) ∧ w.alloc (.cells #[.int .i32 x, .int .i32 y] 33) = w' := by
  unfold On B0
  by_cases h1 : -1073741823 ≤ x <;> by_cases h2 : x ≤ 1073741823 <;> by_cases h3 : -1073741823 ≤ y <;> by_cases h4 : y ≤ 1073741823
  all_goals try (exfalso; omega)
  all_goals
    simp only [h1, h2, h3, h4, and_true, and_false, decide_true, decide_false]
    go_enter Try.func19, Try.ntmps19
    go_wp2
    go_ret
    exact ⟨rfl, rfl⟩
theorem right_r (b : Bx) (w : World) : Calls Try.prog 43 #[.agg #[.int .i32 b.x0, .int .i32 b.y0, .int .i32 b.x1, .int .i32 b.y1]] w fun e w' => e = .returned (.bool (decide (Right b))) ∧ Keeps (fun _ => False) w w' := by
  have key : Right b ↔ (-1073741823 ≤ b.x0 ∧ -1073741823 ≤ b.y0 ∧ b.x1 ≤ 1073741823 ∧ b.y1 ≤ 1073741823) ∧ b.x0 ≤ b.x1 ∧ b.y0 ≤ b.y1 := by
    unfold Right On B0; omega
  simp only [key]
  by_cases h1 : -1073741823 ≤ b.x0 <;> by_cases h2 : -1073741823 ≤ b.y0 <;> by_cases h3 : b.x1 ≤ 1073741823 <;> by_cases h4 : b.y1 ≤ 1073741823
  all_goals
    simp only [h1, h2, h3, h4, true_and, false_and, and_true, and_false, decide_false]
  all_goals (clear key; go_enter Try.func43, Try.ntmps43)
  all_goals go_wp2
  all_goals go_ret
  all_goals first
    | exact ⟨rfl, by (repeat (first | exact Keeps.refl _ _ | refine Keeps.alloc ?_ _ | refine Keeps.drew ?_))⟩
    | (rename_i h5; refine ⟨?_, by (repeat (first | exact Keeps.refl _ _ | refine Keeps.alloc ?_ _ | refine Keeps.drew ?_))⟩; first | (simp [h5]; done) | (simp; omega))
theorem new_r (s : Int) (w : World) : Calls Try.prog 5 #[.int .i64 s] w fun e w' => (e = .returned (.pointer none) ∧ ¬ Size s ∧ w' = w) ∨ (e = .returned (.pointer (some ⟨w.heap.size, 0, none⟩)) ∧ Size s ∧ w' = w.alloc (.cells #[.int .i64 s, .slice none 0 0] 55)) := by
  by_cases h1 : 1 ≤ s
  · by_cases h2 : s ≤ 2147483648
    · have hs := Lib.hid (show Size s from ⟨h1, h2⟩)
      go_enter Try.func5, Try.ntmps5
      go_wp2
      go_ret
      exact .inr ⟨rfl, hs.out, rfl⟩
    · have hs := Lib.hid (show ¬ Size s from fun h => h2 h.2)
      go_enter Try.func5, Try.ntmps5
      go_wp2
      go_ret
      exact .inl ⟨rfl, hs.out, rfl⟩
  · have hs := Lib.hid (show ¬ Size s from fun h => h1 h.1)
    go_enter Try.func5, Try.ntmps5
    go_wp2
    go_ret
    exact .inl ⟨rfl, hs.out, rfl⟩
end Gx
end Go.Proofs.Ytdbpfbokfmpgcaa
namespace Go.Proofs.Ytdbpfbokfmpgcaa
open Go.RowKit Go.Shelf
set_option linter.unusedVariables false
set_option linter.unusedSimpArgs false
set_option linter.ambiguousOpen false
attribute [local go_sem] Oper.semAt_some
namespace Gx
open Mem Gr Gs
set_option maxHeartbeats 4000000 in
theorem cells_r (w : World) (R : Nat) (s : Int) (v : Value) (hR : Blk w R 55 [.int .i64 s, v]) (hs : Size s) (b : Bx) (hb : Right b) :
    Calls Try.prog 21 #[.pointer (some ⟨R, 0, none⟩), .agg #[.int .i32 b.x0, .int .i32 b.y0, .int .i32 b.x1, .int .i32 b.y1]] w fun e w' => e = .returned (.int .i64 (cnt s b)) ∧ Keeps (fun _ => False) w w' := by
  have o1 := fun w => floor_r b.x0 s w hb.1.1 hb.1.2.1 hs
  have o2 := fun w => floor_r b.y0 s w hb.1.2.2.1 hb.1.2.2.2 hs
  have o3 := fun w => floor_r b.x1 s w hb.2.1.1 hb.2.1.2.1 hs
  have o4 := fun w => floor_r b.y1 s w hb.2.1.2.2.1 hb.2.1.2.2.2 hs
  have q1 := quot_in hs.1 hb.1.1 hb.1.2.1
  have q2 := quot_in hs.1 hb.1.2.2.1 hb.1.2.2.2
  have q3 := quot_in hs.1 hb.2.1.1 hb.2.1.2.1
  have q4 := quot_in hs.1 hb.2.1.2.2.1 hb.2.1.2.2.2
  have m1 : b.x0 / s ≤ b.x1 / s := ediv_mono hs.1 hb.2.2.1
  have m2 : b.y0 / s ≤ b.y1 / s := ediv_mono hs.1 hb.2.2.2
  unfold cnt
  (obtain ⟨a, ha⟩ : ∃ q, q = b.x0 / s := ⟨_, rfl⟩; obtain ⟨c, hc⟩ : ∃ q, q = b.y0 / s := ⟨_, rfl⟩; obtain ⟨d, hd⟩ : ∃ q, q = b.x1 / s := ⟨_, rfl⟩; obtain ⟨f, hf⟩ : ∃ q, q = b.y1 / s := ⟨_, rfl⟩)
  rw [← ha] at o1 q1 m1 ⊢
  rw [← hc] at o2 q2 m2 ⊢
  rw [← hd] at o3 q3 m1 ⊢
  rw [← hf] at o4 q4 m2 ⊢
  have w1 : IntKind.i64.wrap (d - a) = d - a := IntWalk.i64_in _ (by omega)
  have w2 : IntKind.i64.wrap (f - c) = f - c := IntWalk.i64_in _ (by omega)
  have w3 : IntKind.i64.wrap (d - a + 1) = d - a + 1 := IntWalk.i64_in _ (by omega)
  have w4 : IntKind.i64.wrap (f - c + 1) = f - c + 1 := IntWalk.i64_in _ (by omega)
  have w5 : IntKind.i64.wrap ((d - a + 1) * (f - c + 1)) = (d - a + 1) * (f - c + 1) := IntWalk.i64_in _ (prod_in (by omega) (by omega) (by omega) (by omega))
  have HO := Lib.hid (And.intro o1 (And.intro o2 (And.intro o3 o4)))
  have HS := Lib.hid (show ∀ W, Keeps (fun _ => False) (w.alloc (.cells #[.int .i32 b.x0, .int .i32 b.y0, .int .i32 b.x1, .int .i32 b.y1] 35)) W → (∀ i : Nat, W.cell? ⟨w.heap.size, i, none⟩ = ([.int .i32 b.x0, .int .i32 b.y0, .int .i32 b.x1, .int .i32 b.y1] : List Value)[i]?) ∧ (∀ i : Nat, W.cell? ⟨R, i, none⟩ = ([.int .i64 s, v] : List Value)[i]?) from fun W hk => ⟨((Blk.new w 35 [.int .i32 b.x0, .int .i32 b.y0, .int .i32 b.x1, .int .i32 b.y1]).keeps hk (fun h => h)).cell, ((hR.alloc _).keeps hk (fun h => h)).cell⟩)
  clear ha hc hd hf q1 q2 q3 q4 m1 m2 hs hb o1 o2 o3 o4 hR
  go_enter Try.func21, Try.ntmps21
  go_wp2
  go_region_held3 (fun W => (∀ i : Nat, W.cell? ⟨w.heap.size, i, none⟩ = ([.int .i32 b.x0, .int .i32 b.y0, .int .i32 b.x1, .int .i32 b.y1] : List Value)[i]?) ∧ (∀ i : Nat, W.cell? ⟨R, i, none⟩ = ([.int .i64 s, v] : List Value)[i]?)) (first | with_reducible assumption | exact HS.out _ (by (repeat (first | exact Keeps.refl _ _ | refine Keeps.alloc ?_ _ | refine Keeps.drew ?_)))) (first | (go_at_call 20; (first | (with_reducible refine (HO.out.1 _).mono ?_) | (with_reducible refine (HO.out.2.1 _).mono ?_) | (with_reducible refine (HO.out.2.2.1 _).mono ?_) | (with_reducible refine (HO.out.2.2.2 _).mono ?_)); rintro e w2 ⟨rfl, rfl⟩))
  go_wp2
  go_region_held3 (fun W => (∀ i : Nat, W.cell? ⟨w.heap.size, i, none⟩ = ([.int .i32 b.x0, .int .i32 b.y0, .int .i32 b.x1, .int .i32 b.y1] : List Value)[i]?) ∧ (∀ i : Nat, W.cell? ⟨R, i, none⟩ = ([.int .i64 s, v] : List Value)[i]?)) (first | with_reducible assumption | exact HS.out _ (by (repeat (first | exact Keeps.refl _ _ | refine Keeps.alloc ?_ _ | refine Keeps.drew ?_)))) (first | (go_at_call 20; (first | (with_reducible refine (HO.out.1 _).mono ?_) | (with_reducible refine (HO.out.2.1 _).mono ?_) | (with_reducible refine (HO.out.2.2.1 _).mono ?_) | (with_reducible refine (HO.out.2.2.2 _).mono ?_)); rintro e w2 ⟨rfl, rfl⟩))
  go_wp2
  go_ret
  exact ⟨rfl, by (repeat (first | exact Keeps.refl _ _ | refine Keeps.alloc ?_ _ | refine Keeps.drew ?_))⟩
theorem floor_q (v s : Int) (hv : -1073741823 ≤ v) (hv2 : v ≤ 1073741823) (hs : Size s) (w : World) (n : Nat) : Calls Try.prog 20 #[.int .i32 v, .int .i64 s] (w.drewN n) fun e w'' => e = .returned (.int .i64 (v / s)) ∧ ∃ m, w'' = w.drewN m :=
  Calls.quiet_of_same ((floor_r v s _ hv hv2 hs).mono fun _ _ ⟨h1, h2⟩ => ⟨h1, h2.symm⟩)
set_option maxHeartbeats 4000000 in
set_option maxRecDepth 100000 in
theorem has_r (w : World) (R : Nat) (s : Int) (v : Value) (hR : Blk w R 55 [.int .i64 s, v]) (hs : Size s) (b : Bx) (hb : Right b) (c : Cl) (hc1 : -2147483648 ≤ c.1) (hc2 : c.1 ≤ 2147483647) (hc3 : -2147483648 ≤ c.2) (hc4 : c.2 ≤ 2147483647) :
    Calls Try.prog 22 #[.pointer (some ⟨R, 0, none⟩), .agg #[.int .i32 b.x0, .int .i32 b.y0, .int .i32 b.x1, .int .i32 b.y1], .agg #[.int .i32 c.1, .int .i32 c.2]] w fun e w' => e = .returned (.bool (decide (covers s b c))) ∧ Keeps (fun _ => False) w w' := by
  have o1 := floor_q b.x0 s hb.1.1 hb.1.2.1 hs
  have o2 := floor_q b.y0 s hb.1.2.2.1 hb.1.2.2.2 hs
  have o3 := floor_q b.x1 s hb.2.1.1 hb.2.1.2.1 hs
  have o4 := floor_q b.y1 s hb.2.1.2.2.1 hb.2.1.2.2.2 hs
  unfold covers
  obtain ⟨cx, hcx⟩ : ∃ q, q = c.1 := ⟨_, rfl⟩
  obtain ⟨cy, hcy⟩ : ∃ q, q = c.2 := ⟨_, rfl⟩
  rw [← hcx] at hc1 hc2
  rw [← hcy] at hc3 hc4
  simp only [← hcx, ← hcy]
  obtain ⟨a, ha⟩ : ∃ q, q = b.x0 / s := ⟨_, rfl⟩
  obtain ⟨g, hg⟩ : ∃ q, q = b.y0 / s := ⟨_, rfl⟩
  obtain ⟨d, hd⟩ : ∃ q, q = b.x1 / s := ⟨_, rfl⟩
  obtain ⟨f, hf⟩ : ∃ q, q = b.y1 / s := ⟨_, rfl⟩
  rw [← ha] at o1 ⊢
  rw [← hg] at o2 ⊢
  rw [← hd] at o3 ⊢
  rw [← hf] at o4 ⊢
  have HO := Lib.hid (And.intro o1 (And.intro o2 (And.intro o3 o4)))
  have cB := ((Blk.new w 35 [.int .i32 b.x0, .int .i32 b.y0, .int .i32 b.x1, .int .i32 b.y1]).alloc (.cells #[.int .i32 cx, .int .i32 cy] 65)).cell
  have cR := ((hR.alloc (.cells #[.int .i32 b.x0, .int .i32 b.y0, .int .i32 b.x1, .int .i32 b.y1] 35)).alloc (.cells #[.int .i32 cx, .int .i32 cy] 65)).cell
  clear ha hg hd hf hcx hcy hs hb o1 o2 o3 o4 hR
  by_cases h1 : a ≤ cx
  · by_cases h2 : cx ≤ d
    · by_cases h3 : g ≤ cy
      · by_cases h4 : cy ≤ f
        · simp only [h1, h2, h3, h4, and_true, decide_true]
          (go_enter Try.func22, Try.ntmps22; go_wp2_with fail; go_quiet ((go_at_call 20; (first | with_reducible exact HO.out.1 _ _ | with_reducible exact HO.out.2.1 _ _ | with_reducible exact HO.out.2.2.1 _ _ | with_reducible exact HO.out.2.2.2 _ _))); go_wp2; go_ret; exact ⟨rfl, (((Keeps.refl _ w).alloc _).alloc _).drewN _⟩)
        · simp only [h1, h2, h3, h4, and_true, and_false, decide_false]
          have e4 : decide (cy ≤ f) = false := decide_eq_false h4
          clear h4
          (go_enter Try.func22, Try.ntmps22; go_wp2_with fail; go_quiet ((go_at_call 20; (first | with_reducible exact HO.out.1 _ _ | with_reducible exact HO.out.2.1 _ _ | with_reducible exact HO.out.2.2.1 _ _ | with_reducible exact HO.out.2.2.2 _ _))); go_wp2; go_ret; exact ⟨rfl, (((Keeps.refl _ w).alloc _).alloc _).drewN _⟩)
      · simp only [h1, h2, h3, and_true, true_and, false_and, decide_false]
        have e3 : decide (g ≤ cy) = false := decide_eq_false h3
        clear h3
        (go_enter Try.func22, Try.ntmps22; go_wp2_with fail; go_quiet ((go_at_call 20; (first | with_reducible exact HO.out.1 _ _ | with_reducible exact HO.out.2.1 _ _ | with_reducible exact HO.out.2.2.1 _ _ | with_reducible exact HO.out.2.2.2 _ _))); go_wp2; go_ret; exact ⟨rfl, (((Keeps.refl _ w).alloc _).alloc _).drewN _⟩)
    · simp only [h1, h2, and_true, true_and, false_and, decide_false]
      have e2 : decide (cx ≤ d) = false := decide_eq_false h2
      clear h2
      (go_enter Try.func22, Try.ntmps22; go_wp2_with fail; go_quiet ((go_at_call 20; (first | with_reducible exact HO.out.1 _ _ | with_reducible exact HO.out.2.1 _ _ | with_reducible exact HO.out.2.2.1 _ _ | with_reducible exact HO.out.2.2.2 _ _))); go_wp2; go_ret; exact ⟨rfl, (((Keeps.refl _ w).alloc _).alloc _).drewN _⟩)
  · simp only [h1, false_and, decide_false]
    have e1 : decide (a ≤ cx) = false := decide_eq_false h1
    clear h1
    (go_enter Try.func22, Try.ntmps22; go_wp2_with fail; go_quiet ((go_at_call 20; (first | with_reducible exact HO.out.1 _ _ | with_reducible exact HO.out.2.1 _ _ | with_reducible exact HO.out.2.2.1 _ _ | with_reducible exact HO.out.2.2.2 _ _))); go_wp2; go_ret; exact ⟨rfl, (((Keeps.refl _ w).alloc _).alloc _).drewN _⟩)
end Gx
end Go.Proofs.Ytdbpfbokfmpgcaa
namespace Go.Proofs.Ytdbpfbokfmpgcaa
open Go.RowKit Go.Shelf
set_option linter.unusedVariables false
set_option linter.unusedSimpArgs false
set_option linter.ambiguousOpen false
attribute [local go_sem] Oper.semAt_some
namespace Gx
open Mem Gr Gs
def bxd (p : Nat × Bx) : List Value := [.int .u32 (p.1 : Int), .int .i32 p.2.x0, .int .i32 p.2.y0, .int .i32 p.2.x1, .int .i32 p.2.y1]
def bxdL (L : List (Nat × Bx)) : List Value := L.flatMap bxd
theorem bxdL_length (L : List (Nat × Bx)) : (bxdL L).length = L.length * 5 := flat_length (f := bxd) (fun _ => rfl) L
theorem bxdL_app (A B : List (Nat × Bx)) : bxdL (A ++ B) = bxdL A ++ bxdL B := by simp [bxdL]
/-- the document's grid: its block, its list's slice -/
structure RG (w : World) (R : Nat) (s : Int) (a : Option Addr) (cp : Nat) (L : List (Nat × Bx)) : Prop where
  blk : Blk w R 55 [.int .i64 s, .slice a L.length cp]
  own : w.ownsRow 0 68 5 (.slice a L.length cp) L.length (bxdL L)
section
variable {w w' : World} {R : Nat} {s : Int} {a : Option Addr} {cp : Nat} {L : List (Nat × Bx)}
theorem RG.keeps {U : Nat → Prop} (h : RG w R s a cp L) (hk : Keeps U w w') (hR : ¬ U R) (ho : ∀ k, (Value.slice a L.length cp).ownBlock = some k → ¬ U k) : RG w' R s a cp L :=
  ⟨h.blk.keeps hk hR, owns_keeps h.own hk ho⟩
theorem RG.kd (h : RG w R s a cp L) (hk : Keeps (fun _ => False) w w') : RG w' R s a cp L := h.keeps hk (fun h => h) (fun _ _ h => h)
theorem RG.row (h : RG w R s a cp L) {i : Nat} {p : Nat × Bx} (hp : L[i]? = some p) : ∃ g, a = some ⟨g, 0, none⟩ ∧ ∀ j u, (bxd p)[j]? = some u → w.cell? ⟨g, i * 5 + j, none⟩ = some u := by
  have hi : i < L.length := (List.getElem?_eq_some_iff.1 hp).1
  have hO := h.own
  rcases hO.2 with ⟨_, h0⟩ | ⟨g, cap, cur, hv, _, _, _⟩
  · omega
  · simp only [Value.slice.injEq] at hv
    refine ⟨g, hv.1, fun j u hj => ?_⟩
    have hj5 : j < 5 := by have := (List.getElem?_eq_some_iff.1 hj).1; simpa [bxd] using this
    have hfc := flat_cell (f := bxd) (fun x => rfl) L i j hj5 p hp
    have hc := hO.cells (g := g) (by rw [hv.1]; rfl) (i * 5 + j) u (by unfold bxdL; rw [hfc, hj])
    rw [Addr.add_mid, Nat.zero_add] at hc
    exact hc
end
/-- where a number stands -/
def AtP (L : List (Nat × Bx)) (id : Nat) (z : Int) : Prop := (z = -1 ∧ ∀ p ∈ L, p.1 ≠ id) ∨ ∃ i p, z = ((i : Nat) : Int) ∧ L[i]? = some p ∧ p.1 = id
set_option maxHeartbeats 4000000 in
theorem at_r (w : World) (R : Nat) (s : Int) (a : Option Addr) (cp : Nat) (L : List (Nat × Bx)) (h : RG w R s a cp L) (hl : L.length ≤ 1000000) (id : Nat) :
    Calls Try.prog 44 #[.pointer (some ⟨R, 0, none⟩), .int .u32 (id : Int)] w fun e w' => w' = w ∧ ∃ z, e = .returned (.int .i64 z) ∧ AtP L id z := by
  obtain ⟨n, hn⟩ : ∃ n : Nat, n = L.length := ⟨_, rfl⟩
  rw [← hn] at hl
  have hnI : (n : Int) ≤ 1000000 := by omega
  have cR := h.blk.cell
  rw [← hn] at cR
  have HN := Lib.hid hn
  have H := Lib.hid h
  clear hn h hl
  go_enter Try.func44, Try.ntmps44
  go_wp2
  go_loopw [5] (fun q wr => ∃ i : Nat, q = .int .i64 (i : Int) ∧ i ≤ n ∧ (∀ j p, j < i → L[j]? = some p → p.1 ≠ id) ∧ wr = w) (fun q _ => n - (intOf q).toNat)
  case atStart => exact ⟨0, rfl, Nat.zero_le _, fun j p hj => by omega, rfl⟩
  case round =>
    obtain ⟨i, rfl, hi, hno, rfl⟩ := hrel
    have HO := Lib.hid hno
    clear hno
    by_cases hlt : i < n
    · obtain ⟨p, hp⟩ : ∃ p, L[i]? = some p := ⟨_, List.getElem?_eq_getElem (by have := HN.out; omega)⟩
      obtain ⟨g, rfl, hc⟩ := H.out.row hp
      have c0 := hc 0 _ rfl
      simp only [Nat.add_zero] at c0
      have hltI : (i : Int) < (n : Int) := by omega
      have HP := Lib.hid hp
      clear hp hc
      by_cases he : p.1 = id
      · have heI : (p.1 : Int) = (id : Int) := by omega
        rw [heI] at c0
        clear heI
        have HE := Lib.hid he
        clear he
        go_wp2
        go_ret
        exact ⟨rfl, _, rfl, .inr ⟨i, p, rfl, HP.out, HE.out⟩⟩
      · have heI : ((p.1 : Int) == (id : Int)) = false := by simp; omega
        have HE := Lib.hid he
        clear he
        go_wp2
        go_roundw
        case rel =>
          refine ⟨i + 1, by rw [Int.natCast_add]; rfl, by omega, fun j q hj hq => ?_, by trivial⟩
          rcases Nat.lt_or_ge j i with h1 | h1
          · exact HO.out j q h1 hq
          · have : j = i := by omega
            subst this
            rw [HP.out] at hq
            cases hq
            exact HE.out
        case measure => simp only [intOf]; omega
    · have hge : i = n := by omega
      subst hge
      go_wp2
      go_ret
      refine ⟨rfl, _, rfl, .inl ⟨rfl, fun p hp => ?_⟩⟩
      obtain ⟨j, hj, rfl⟩ := List.getElem_of_mem hp
      exact HO.out j _ (by have := HN.out; omega) (List.getElem?_eq_getElem hj)
end Gx
end Go.Proofs.Ytdbpfbokfmpgcaa
namespace Go.Proofs.Ytdbpfbokfmpgcaa
open Go.RowKit Go.Shelf
set_option linter.unusedVariables false
set_option linter.unusedSimpArgs false
set_option linter.ambiguousOpen false
namespace Gx
open Mem Gr Gs
/-- a box put in by its number -/
def insB (id : Nat) (b : Bx) : List (Nat × Bx) → List (Nat × Bx)
  | [] => [(id, b)]
  | p :: t => if id < p.1 then (id, b) :: p :: t else p :: insB id b t
theorem mem_insB {id : Nat} {b : Bx} {L : List (Nat × Bx)} {q : Nat × Bx} : q ∈ insB id b L ↔ q ∈ L ∨ q = (id, b) := by
  induction L with
  | nil => simp [insB]
  | cons p t ih =>
    unfold insB
    split
    · simp only [List.mem_cons]
      constructor
      · rintro (h | h | h)
        · exact .inr h
        · exact .inl (.inl h)
        · exact .inl (.inr h)
      · rintro ((h | h) | h)
        · exact .inr (.inl h)
        · exact .inr (.inr h)
        · exact .inl h
    · simp only [List.mem_cons, ih]
      constructor
      · rintro (h | h | h)
        · exact .inl (.inl h)
        · exact .inl (.inr h)
        · exact .inr h
      · rintro ((h | h) | h)
        · exact .inl h
        · exact .inr (.inl h)
        · exact .inr (.inr h)
def Rise (L : List (Nat × Bx)) : Prop := (L.map (·.1)).Pairwise (· < ·)
theorem Rise.nodup {L : List (Nat × Bx)} (h : Rise L) : (L.map (·.1)).Nodup := List.Pairwise.imp (fun h => by omega) h
theorem Rise.ins {id : Nat} {b : Bx} {L : List (Nat × Bx)} (h : Rise L) (hno : ∀ p ∈ L, p.1 ≠ id) : Rise (insB id b L) := by
  unfold Rise at h ⊢
  induction L with
  | nil => simp [insB]
  | cons p t ih =>
    rw [List.map_cons, List.pairwise_cons] at h
    unfold insB
    have hp := hno p (by simp)
    split
    · rename_i hlt
      rw [List.map_cons, List.pairwise_cons, List.map_cons, List.pairwise_cons]
      refine ⟨fun a ha => ?_, h⟩
      rcases List.mem_cons.1 ha with rfl | ha
      · exact hlt
      · have := h.1 a ha; simp only; omega
    · rename_i hlt
      rw [List.map_cons, List.pairwise_cons]
      refine ⟨fun a ha => ?_, ih h.2 (fun q hq => hno q (by simp [hq]))⟩
      obtain ⟨q, hq, rfl⟩ := List.mem_map.1 ha
      rcases mem_insB.1 hq with hq | rfl
      · exact h.1 _ (List.mem_map.2 ⟨q, hq, rfl⟩)
      · simp only; omega
theorem Rise.del {id : Nat} {L : List (Nat × Bx)} (h : Rise L) : Rise (delB id L) := by
  unfold Rise at h ⊢
  exact h.sublist (List.Sublist.map _ List.filter_sublist)
theorem insB_length (id : Nat) (b : Bx) (L : List (Nat × Bx)) : (insB id b L).length = L.length + 1 := by
  induction L with
  | nil => rfl
  | cons p t ih =>
    unfold insB
    split
    · simp
    · simp [ih]
theorem Rise.filt {L : List (Nat × Bx)} (h : Rise L) (f : Nat × Bx → Bool) : ((L.filter f).map (·.1)).Pairwise (· < ·) := by
  unfold Rise at h
  exact h.sublist (List.Sublist.map _ List.filter_sublist)
/-- two rising lists with the same members are the same -/
theorem rise_eq : ∀ {A B : List Nat}, A.Pairwise (· < ·) → B.Pairwise (· < ·) → (∀ x, x ∈ A ↔ x ∈ B) → A = B
  | [], [], _, _, _ => rfl
  | [], b :: B, _, _, h => absurd ((h b).2 (by simp)) (by simp)
  | a :: A, [], _, _, h => absurd ((h a).1 (by simp)) (by simp)
  | a :: A, b :: B, ha, hb, h => by
    rw [List.pairwise_cons] at ha hb
    have h1 : a ≤ b := by
      rcases List.mem_cons.1 ((h b).2 (by simp)) with e | e
      · omega
      · have := ha.1 b e; omega
    have h2 : b ≤ a := by
      rcases List.mem_cons.1 ((h a).1 (by simp)) with e | e
      · omega
      · have := hb.1 a e; omega
    have e : a = b := by omega
    subst e
    congr 1
    refine rise_eq ha.2 hb.2 (fun x => ?_)
    constructor
    · intro hx
      rcases List.mem_cons.1 ((h x).1 (by simp [hx])) with e | e
      · subst e; have := ha.1 x hx; omega
      · exact e
    · intro hx
      rcases List.mem_cons.1 ((h x).2 (by simp [hx])) with e | e
      · subst e; have := hb.1 x hx; omega
      · exact e
/-- two lists without doubles and with the same members are of one length -/
theorem len_eq {α : Type} {A B : List α} (ha : A.Nodup) (hb : B.Nodup) (h : ∀ x, x ∈ A ↔ x ∈ B) : A.length = B.length := by
  have h1 := ha.length_le_of_subset (l₂ := B) (fun x hx => (h x).1 hx)
  have h2 := hb.length_le_of_subset (l₂ := A) (fun x hx => (h x).2 hx)
  omega
/-! answers -/
def inList (L : List (Nat × Bx)) (id : Nat) (b : Bx) : Prop := (id, b) ∈ L
def atB (s mx my : Int) (p : Nat × Bx) : Bool := decide (cnt s p.2 > 1024) || decide (covers s p.2 (cof s mx my))
def atL (s mx my : Int) (L : List (Nat × Bx)) : List Nat := (L.filter (atB s mx my)).map (·.1)
theorem mem_atL {s mx my : Int} {L : List (Nat × Bx)} {id : Nat} : id ∈ atL s mx my L ↔ atT s (inList L) mx my id := by
  unfold atL atT atB inList
  simp only [List.mem_map, List.mem_filter, Bool.or_eq_true, decide_eq_true_eq]
  constructor
  · rintro ⟨⟨i, b⟩, ⟨h1, h2⟩, rfl⟩; exact ⟨b, h1, h2⟩
  · rintro ⟨b, h1, h2⟩; exact ⟨(id, b), ⟨h1, h2⟩, rfl⟩
def anyC (s : Int) (b : Bx) (cs : List Cl) : Bool := cs.any fun c => decide (covers s b c)
def crB (s : Int) (far : Bool) (cs : List Cl) (p : Nat × Bx) : Bool := (far || decide (cnt s p.2 > 1024)) || anyC s p.2 cs
def crL (s px py qx qy : Int) (L : List (Nat × Bx)) : List Nat :=
  (L.filter (crB s (decide (cnt s (bnd px py qx qy) > 1024)) (if cnt s (bnd px py qx qy) > 1024 then [] else lineL px py qx qy s))).map (·.1)
theorem mem_crL {s px py qx qy : Int} {L : List (Nat × Bx)} {id : Nat} : id ∈ crL s px py qx qy L ↔ crT s (inList L) px py qx qy id := by
  unfold crL crT crB anyC inList
  simp only [List.mem_map, List.mem_filter, Bool.or_eq_true, decide_eq_true_eq, List.any_eq_true]
  constructor
  · rintro ⟨⟨i, b⟩, ⟨h1, h2⟩, rfl⟩
    refine ⟨b, h1, fun hc => ?_⟩
    rw [if_neg (by omega)] at h2
    rcases h2 with (h2 | h2) | h2
    · omega
    · exact .inl h2
    · exact .inr h2
  · rintro ⟨b, h1, h2⟩
    refine ⟨(id, b), ⟨h1, ?_⟩, rfl⟩
    by_cases hc : cnt s (bnd px py qx qy) > 1024
    · exact .inl (.inl hc)
    · rw [if_neg hc]
      rcases h2 (by omega) with h2 | h2
      · exact .inl (.inr h2)
      · exact .inr h2
/-! the column -/
def upD (n d : Int) : Int := -((-n) / d)
def colLast (x y dx dy s c : Int) : Int := if (c * s + s) ≤ x + dx then (if dy = 0 then firstR x y dx dy s c else if dy > 0 then upD (y * dx + dy * (c * s + s - x)) (dx * s) - 1 else (y * dx + dy * (c * s + s - x)) / (dx * s)) else (y + dy) / s
theorem col_eq {x y dx dy s c : Int} (hs : 1 ≤ s) (hd : 0 < dx) : lowR x y dx dy s c = min (firstR x y dx dy s c) (colLast x y dx dy s c) ∧ highR x y dx dy s c = max (firstR x y dx dy s c) (colLast x y dx dy s c) := by
  unfold lowR highR
  rw [if_neg (by omega), if_neg (by omega)]
  have hcs : (c + 1) * s = c * s + s := by rw [Int.add_mul, Int.one_mul]
  have hds : 0 < dx * s := Int.mul_pos hd (by omega)
  suffices h : lastR x y dx dy s c = colLast x y dx dy s c by rw [h]; exact ⟨rfl, rfl⟩
  unfold lastR colLast last0 ontoR Gs.rowAt
  rw [hcs]
  by_cases h1 : c * s + s ≤ x + dx
  · rw [if_pos h1]
    simp only [h1, decide_true, Bool.true_and, decide_eq_true_eq, if_true]
    generalize c * s + s - x = t
    by_cases h2 : dy = 0
    · subst h2
      rw [if_neg (by omega), if_pos rfl]
      unfold firstR Gs.rowAt
      simp only [Int.zero_mul, Int.add_zero]
      rw [sdiv hd]
      split <;> rfl
    · rw [if_neg h2]
      by_cases h3 : dy > 0
      · rw [if_pos h3]
        unfold upD
        generalize y * dx + dy * t = n
        generalize dx * s = d at hds
        have e1 := Int.mul_ediv_add_emod n d
        have e3 := Int.emod_nonneg n (show d ≠ 0 by omega)
        have e4 := Int.emod_lt_of_pos n hds
        by_cases h4 : n / d * d = n
        · rw [if_pos ⟨h4, h3⟩]
          have : (-n) / d = -(n / d) := Int.neg_ediv_of_dvd ⟨n / d, by rw [Int.mul_comm]; exact h4.symm⟩
          omega
        · rw [if_neg (fun h => h4 h.1)]
          have h5 : 0 < n % d := by
            rcases Int.lt_or_eq_of_le e3 with h | h
            · exact h
            · exfalso; apply h4; rw [Int.mul_comm]; omega
          have h6 : (-n) / d = -(n / d) - 1 := by
            have h7 : -n = (d - n % d) + d * (-(n / d) - 1) := by
              rw [Int.mul_sub, Int.mul_neg]; omega
            rw [h7, Int.add_mul_ediv_left _ _ (by omega), Int.ediv_eq_zero_of_lt (by omega) (by omega)]; omega
          omega
      · rw [if_neg h3, if_neg (fun h => h3 h.2)]
  · rw [if_neg h1]
    simp only [h1, decide_false, Bool.false_and, false_and, if_false]
    rw [if_neg (by simp)]
/-! cells -/
def old (s : Int) (pre : List (Nat × Bx)) (c : Cl) : Bool := pre.any fun p => decide (cnt s p.2 ≤ 1024) && decide (covers s p.2 c)
def newC (s : Int) (pre : List (Nat × Bx)) (b : Bx) : List Cl := if cnt s b > 1024 then [] else (coverL s b).filter fun c => !old s pre c
def allC (s : Int) : List (Nat × Bx) → List (Nat × Bx) → List Cl
  | _, [] => []
  | pre, p :: t => newC s pre p.2 ++ allC s (pre ++ [p]) t
theorem mem_newC {s : Int} {pre : List (Nat × Bx)} {b : Bx} {c : Cl} : c ∈ newC s pre b ↔ cnt s b ≤ 1024 ∧ covers s b c ∧ old s pre c = false := by
  unfold newC
  split
  · rename_i h
    simp; omega
  · rename_i h
    rw [List.mem_filter, mem_coverL]
    simp; omega
theorem old_app {s : Int} {pre : List (Nat × Bx)} {p : Nat × Bx} {c : Cl} : old s (pre ++ [p]) c = true ↔ old s pre c = true ∨ (cnt s p.2 ≤ 1024 ∧ covers s p.2 c) := by
  unfold old
  simp
theorem mem_allC {s : Int} : ∀ {L pre : List (Nat × Bx)} {c : Cl}, c ∈ allC s pre L ↔ old s pre c = false ∧ ∃ p ∈ L, cnt s p.2 ≤ 1024 ∧ covers s p.2 c
  | [], pre, c => by simp [allC]
  | p :: t, pre, c => by
    unfold allC
    rw [List.mem_append, mem_newC, mem_allC]
    have ho := old_app (s := s) (pre := pre) (p := p) (c := c)
    by_cases h0 : old s pre c = true
    · rw [h0] at ho ⊢
      simp [ho.2 (.inl rfl)]
    · have h0' : old s pre c = false := by simpa using h0
      by_cases hc : cnt s p.2 ≤ 1024 ∧ covers s p.2 c
      · have h2 := ho.2 (.inr hc)
        rw [h2]
        simp [h0', hc]
      · have h2 : old s (pre ++ [p]) c = false := by
          cases hx : old s (pre ++ [p]) c
          · rfl
          · exact absurd (ho.1 hx) (by simp [h0', hc])
        rw [h2]
        simp only [h0', true_and, and_true, List.mem_cons, exists_eq_or_imp]
theorem nodup_allC {s : Int} : ∀ (L pre : List (Nat × Bx)), (allC s pre L).Nodup
  | [], _ => by simp [allC]
  | p :: t, pre => by
    unfold allC
    rw [List.nodup_append]
    refine ⟨?_, nodup_allC t _, ?_⟩
    · unfold newC
      split
      · simp
      · exact (coverL_nodup s p.2).sublist List.filter_sublist
    · rintro a ha c hc rfl
      obtain ⟨h1, h2, h3⟩ := mem_newC.1 ha
      obtain ⟨h4, _⟩ := mem_allC.1 hc
      have := old_app (s := s) (pre := pre) (p := p) (c := a)
      rw [this.2 (.inr ⟨h1, h2⟩)] at h4
      cases h4
theorem allC_app {s : Int} : ∀ (A B pre : List (Nat × Bx)), allC s pre (A ++ B) = allC s pre A ++ allC s (pre ++ A) B
  | [], B, pre => by simp [allC]
  | p :: t, B, pre => by
    rw [List.cons_append, allC, allC, allC_app t B (pre ++ [p]), List.append_assoc, List.append_assoc]; rfl
theorem cells_len {s : Int} {L0 : List (Nat × Bx)} {A : List Nat} {C : Cm} {L : List (Nat × Bx)} (h : GI s (inList L0) L A C) : C.length = (allC s [] L0).length := by
  have := len_eq (A := C.map (·.1)) (B := allC s [] L0) h.keysC (nodup_allC _ _) (fun c => by
    rw [h.cellKeys c, mem_allC]
    constructor
    · rintro ⟨id, b, h1, h2, h3⟩; exact ⟨rfl, (id, b), h1, by simp only; omega, h3⟩
    · rintro ⟨_, ⟨id, b⟩, h1, h2, h3⟩; exact ⟨id, b, h1, by simp only at h2; omega, h3⟩)
  simpa using this
/-- those that are apart -/
def farL (s : Int) (L : List (Nat × Bx)) : List (Nat × Bx) := L.filter fun p => decide (cnt s p.2 > 1024)
theorem apart_len {s : Int} {L0 : List (Nat × Bx)} {A : List Nat} {C : Cm} {L : List (Nat × Bx)} (hr : Rise L0) (h : GI s (inList L0) L A C) : A.length = (farL s L0).length := by
  have h1 : ((farL s L0).map (·.1)).Nodup := (hr.filt _).imp (fun h => by omega)
  have := len_eq (A := A) (B := (farL s L0).map (·.1)) h.nodA h1 (fun id => by
    rw [h.apart id]
    unfold farL inList
    simp only [List.mem_map, List.mem_filter, decide_eq_true_eq]
    constructor
    · rintro ⟨b, h1, h2⟩; exact ⟨(id, b), ⟨h1, h2⟩, rfl⟩
    · rintro ⟨⟨i, b⟩, ⟨h1, h2⟩, rfl⟩; exact ⟨b, h1, h2⟩)
  simpa using this
theorem list_len {s : Int} {L0 : List (Nat × Bx)} {A : List Nat} {C : Cm} {L : List (Nat × Bx)} (hr : Rise L0) (h : GI s (inList L0) L A C) : L.length = L0.length := by
  have h1 : (L0.map (·.1)).Nodup := hr.nodup
  have := len_eq (A := L.map (·.1)) (B := L0.map (·.1)) h.keysL h1 (fun id => by
    simp only [List.mem_map]
    constructor
    · rintro ⟨⟨i, b⟩, h1, rfl⟩; exact ⟨(i, b), (h.setL _ _).1 h1, rfl⟩
    · rintro ⟨⟨i, b⟩, h1, rfl⟩; exact ⟨(i, b), (h.setL _ _).2 h1, rfl⟩)
  simpa using this
end Gx
end Go.Proofs.Ytdbpfbokfmpgcaa
