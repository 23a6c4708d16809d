/-
  RefD: Bounds, At, Crossing, Box, deep.
-/
import Derived.Test.YtndghakagogmcaaRefA
namespace Go.Proofs.Ytndghakagogmcaa
open Go.RowKit Go.Shelf
set_option linter.unusedVariables false
set_option linter.unusedSimpArgs false
attribute [local go_sem] Oper.semAt_some
namespace Tree
open Mem BT
set_option maxHeartbeats 4000000 in
set_option maxRecDepth 100000 in
theorem rbounds_go (g : Nat) (px py qx qy a b c d : Int) (w : World) (hG : Blk w g 35 [.int .i32 px, .int .i32 py, .int .i32 qx, .int .i32 qy])
    (ha : (qx < px ∧ a = qx ∧ c = px) ∨ (px < qx ∧ a = px ∧ c = qx) ∨ (qx = px ∧ a = px ∧ c = px)) (hb : (qy < py ∧ b = qy ∧ d = py) ∨ (py < qy ∧ b = py ∧ d = qy) ∨ (qy = py ∧ b = py ∧ d = py)) :
    Calls Try.prog 64 #[.slice (some ⟨g, 0, none⟩) 2 2] w (Gave (.tuple #[.agg #[.int .i32 a, .int .i32 b, .int .i32 c, .int .i32 d], .bool true]) w) := by
  have cG2 := fun o1 o2 => ((hG.alloc o1).alloc o2).cell
  have cG3 := fun o1 o2 o3 => (((hG.alloc o1).alloc o2).alloc o3).cell
  have hlt := hG.lt
  have HG := Lib.hid hG
  clear hG
  rcases ha with ⟨ha, rfl, rfl⟩ | ⟨ha, rfl, rfl⟩ | ⟨rfl, rfl, rfl⟩
  · rcases hb with ⟨hb, rfl, rfl⟩ | ⟨hb, rfl, rfl⟩ | ⟨rfl, rfl, rfl⟩
    · go_enter Try.func64, Try.ntmps64
      go_wp2
      refine wp_loop_rounds 3 ?_
      rw [rounds_succ]
      go_wp2
      rw [rounds_succ]
      go_wp2
      rw [rounds_succ]
      go_wp2
      exact bodyPost_ret (results_row_tmp rfl _ _ w.heap.size _ _ _ _ rfl ((((Blk.new w 47 [_, _, _, _]).alloc _).alloc _).alloc _) Try.underlying47 rfl (by kernel_rfl)) rfl ⟨rfl, by repeat (first | exact Keeps.refl _ _ | apply Keeps.alloc)⟩
    · go_enter Try.func64, Try.ntmps64
      go_wp2
      refine wp_loop_rounds 3 ?_
      rw [rounds_succ]
      go_wp2
      rw [rounds_succ]
      go_wp2
      rw [rounds_succ]
      go_wp2
      exact bodyPost_ret (results_row_tmp rfl _ _ w.heap.size _ _ _ _ rfl ((((Blk.new w 47 [_, _, _, _]).alloc _).alloc _).alloc _) Try.underlying47 rfl (by kernel_rfl)) rfl ⟨rfl, by repeat (first | exact Keeps.refl _ _ | apply Keeps.alloc)⟩
    · go_enter Try.func64, Try.ntmps64
      go_wp2
      refine wp_loop_rounds 3 ?_
      rw [rounds_succ]
      go_wp2
      rw [rounds_succ]
      go_wp2
      rw [rounds_succ]
      go_wp2
      exact bodyPost_ret (results_row_tmp rfl _ _ w.heap.size _ _ _ _ rfl ((((Blk.new w 47 [_, _, _, _]).alloc _).alloc _).alloc _) Try.underlying47 rfl (by kernel_rfl)) rfl ⟨rfl, by repeat (first | exact Keeps.refl _ _ | apply Keeps.alloc)⟩
  · rcases hb with ⟨hb, rfl, rfl⟩ | ⟨hb, rfl, rfl⟩ | ⟨rfl, rfl, rfl⟩
    · go_enter Try.func64, Try.ntmps64
      go_wp2
      refine wp_loop_rounds 3 ?_
      rw [rounds_succ]
      go_wp2
      rw [rounds_succ]
      go_wp2
      rw [rounds_succ]
      go_wp2
      exact bodyPost_ret (results_row_tmp rfl _ _ w.heap.size _ _ _ _ rfl ((((Blk.new w 47 [_, _, _, _]).alloc _).alloc _).alloc _) Try.underlying47 rfl (by kernel_rfl)) rfl ⟨rfl, by repeat (first | exact Keeps.refl _ _ | apply Keeps.alloc)⟩
    · go_enter Try.func64, Try.ntmps64
      go_wp2
      refine wp_loop_rounds 3 ?_
      rw [rounds_succ]
      go_wp2
      rw [rounds_succ]
      go_wp2
      rw [rounds_succ]
      go_wp2
      exact bodyPost_ret (results_row_tmp rfl _ _ w.heap.size _ _ _ _ rfl ((((Blk.new w 47 [_, _, _, _]).alloc _).alloc _).alloc _) Try.underlying47 rfl (by kernel_rfl)) rfl ⟨rfl, by repeat (first | exact Keeps.refl _ _ | apply Keeps.alloc)⟩
    · go_enter Try.func64, Try.ntmps64
      go_wp2
      refine wp_loop_rounds 3 ?_
      rw [rounds_succ]
      go_wp2
      rw [rounds_succ]
      go_wp2
      rw [rounds_succ]
      go_wp2
      exact bodyPost_ret (results_row_tmp rfl _ _ w.heap.size _ _ _ _ rfl ((((Blk.new w 47 [_, _, _, _]).alloc _).alloc _).alloc _) Try.underlying47 rfl (by kernel_rfl)) rfl ⟨rfl, by repeat (first | exact Keeps.refl _ _ | apply Keeps.alloc)⟩
  · rcases hb with ⟨hb, rfl, rfl⟩ | ⟨hb, rfl, rfl⟩ | ⟨rfl, rfl, rfl⟩
    · go_enter Try.func64, Try.ntmps64
      go_wp2
      refine wp_loop_rounds 3 ?_
      rw [rounds_succ]
      go_wp2
      rw [rounds_succ]
      go_wp2
      rw [rounds_succ]
      go_wp2
      exact bodyPost_ret (results_row_tmp rfl _ _ w.heap.size _ _ _ _ rfl ((((Blk.new w 47 [_, _, _, _]).alloc _).alloc _).alloc _) Try.underlying47 rfl (by kernel_rfl)) rfl ⟨rfl, by repeat (first | exact Keeps.refl _ _ | apply Keeps.alloc)⟩
    · go_enter Try.func64, Try.ntmps64
      go_wp2
      refine wp_loop_rounds 3 ?_
      rw [rounds_succ]
      go_wp2
      rw [rounds_succ]
      go_wp2
      rw [rounds_succ]
      go_wp2
      exact bodyPost_ret (results_row_tmp rfl _ _ w.heap.size _ _ _ _ rfl ((((Blk.new w 47 [_, _, _, _]).alloc _).alloc _).alloc _) Try.underlying47 rfl (by kernel_rfl)) rfl ⟨rfl, by repeat (first | exact Keeps.refl _ _ | apply Keeps.alloc)⟩
    · go_enter Try.func64, Try.ntmps64
      go_wp2
      refine wp_loop_rounds 3 ?_
      rw [rounds_succ]
      go_wp2
      rw [rounds_succ]
      go_wp2
      rw [rounds_succ]
      go_wp2
      exact bodyPost_ret (results_row_tmp rfl _ _ w.heap.size _ _ _ _ rfl ((((Blk.new w 47 [_, _, _, _]).alloc _).alloc _).alloc _) Try.underlying47 rfl (by kernel_rfl)) rfl ⟨rfl, by repeat (first | exact Keeps.refl _ _ | apply Keeps.alloc)⟩
theorem rbounds2 (g : Nat) (px py qx qy : Int) (w : World) (hG : Blk w g 35 [.int .i32 px, .int .i32 py, .int .i32 qx, .int .i32 qy]) :
    Calls Try.prog 64 #[.slice (some ⟨g, 0, none⟩) 2 2] w (Gave (.tuple #[.agg #[.int .i32 (min px qx), .int .i32 (min py qy), .int .i32 (max px qx), .int .i32 (max py qy)], .bool true]) w) :=
  rbounds_go g px py qx qy _ _ _ _ w hG (by omega) (by omega)
theorem rat_t (R : Nat) (S : Nat → Prop) (L : List (Nat × Bx)) (x y : Int) (w : World) (h : RefS w R S L) :
    Calls Try.prog 55 #[.pointer (some ⟨R, 0, none⟩), .agg #[.int .i32 x, .int .i32 y]] w (Fresh w (rangeL L ⟨x, y, x, y⟩)) := by
  have HR := Lib.hid (rrange_t R S L ⟨x, y, x, y⟩ _ (h.kd ((Keeps.refl _ w).alloc (.cells #[.int .i32 x, .int .i32 y] 35))))
  have hlt := h.inb
  clear h hlt
  go_enter Try.func55, Try.ntmps55
  go_wp2_with (go_at_call 22; refine HR.out.mono ?_; rintro e w1 ⟨v, rfl, hO, hk⟩)
  go_ret
  exact ⟨v, rfl, owns_base hO (by simp), ((Keeps.refl _ w).alloc _).trans hk⟩
end Tree
end Go.Proofs.Ytndghakagogmcaa
namespace Go.Proofs.Ytndghakagogmcaa
open Go.RowKit Go.Shelf
set_option linter.unusedVariables false
set_option linter.unusedSimpArgs false
attribute [local go_sem] Oper.semAt_some
namespace Tree
open Mem BT
set_option maxHeartbeats 4000000 in
theorem rcross_t (R : Nat) (S : Nat → Prop) (L : List (Nat × Bx)) (px py qx qy : Int) (w : World) (h : RefS w R S L) :
    Calls Try.prog 56 #[.pointer (some ⟨R, 0, none⟩), .agg #[.int .i32 px, .int .i32 py], .agg #[.int .i32 qx, .int .i32 qy]] w (Fresh w (rangeL L ⟨min px qx, min py qy, max px qx, max py qy⟩)) := by
  have H := Lib.hid h
  clear h
  go_enter Try.func56, Try.ntmps56
  go_wp2_with fail
  refine (rbounds2 (w.heap.size + 1 + 1) px py qx qy _ ?_).mono ?_
  · have := Blk.new ((w.alloc (.cells #[.int .i32 px, .int .i32 py] 35)).alloc (.cells #[.int .i32 qx, .int .i32 qy] 35)) 35 [.int .i32 px, .int .i32 py, .int .i32 qx, .int .i32 qy]
    simpa using this
  rintro e w1 ⟨rfl, hk⟩
  have K1 := Lib.hid ((((Keeps.refl (fun _ => False) w).alloc _).alloc _).alloc _ |>.trans hk)
  clear hk
  have HR := Lib.hid (fun o => rrange_t R S L ⟨min px qx, min py qy, max px qx, max py qy⟩ (w1.alloc o) (H.out.kd (K1.out.alloc o)))
  go_wp2_with (go_at_call 22; (with_reducible refine (HR.out _).mono ?_); rintro e w2 ⟨v, rfl, hO, hk⟩)
  go_ret
  have hz := K1.out.size
  exact ⟨v, rfl, owns_base hO (by simp; omega), (K1.out.alloc _).trans hk⟩
set_option maxHeartbeats 4000000 in
set_option maxRecDepth 100000 in
theorem rbox_t (R : Nat) (S : Nat → Prop) (L : List (Nat × Bx)) (id : Nat) (w : World) (h : RefS w R S L) :
    Calls Try.prog 54 #[.pointer (some ⟨R, 0, none⟩), .int .u32 (id : Int)] w (Gave (boxR2 L id) w) := by
  have k1 := (Keeps.refl (fun _ => False) w).alloc (.cells #[.int .i32 0, .int .i32 0, .int .i32 0, .int .i32 0] 47)
  have HP := Lib.hid (place_t R S L id _ (h.kd k1))
  have HX := Lib.hid (Blk.new w 47 [.int .i32 0, .int .i32 0, .int .i32 0, .int .i32 0])
  have HK := Lib.hid k1
  obtain ⟨ai, ci, ab, cb, h2, hr, he, hl, hS⟩ := h
  unfold boxR2
  cases hh : hasL L id with
  | false =>
    rw [hh] at HP
    rw [lookL_none hh]
    obtain ⟨q, hq⟩ : ∃ q : Nat, q = posL L id := ⟨_, rfl⟩
    rw [← hq] at HP
    clear h2 hr he hl hS k1 hq
    go_enter Try.func54, Try.ntmps54
    go_wp2_with (go_at_call 45; (with_reducible refine HP.out.mono ?_); rintro e w1 ⟨rfl, hk⟩; have hX1 := HX.out.kd hk; have cX := hX1.cell; have fX := hX1.frozen; have HX1 := Lib.hid hX1; have HK1 := Lib.hid (HK.out.trans hk); clear hk hX1)
    exact bodyPost_ret (results_row_tmp rfl _ _ w.heap.size _ _ _ _ rfl ((((HX1.out.set_ 0 (.int .i32 0)).set_ 1 (.int .i32 0)).set_ 2 (.int .i32 0)).set_ 3 (.int .i32 0)) Try.underlying47 rfl (by kernel_rfl)) rfl ⟨rfl, by repeat (first | exact HK1.out | refine Keeps.setCell ?_ (by simp) _)⟩
  | true =>
    rw [hh] at HP
    have hp := look_pos hr hh
    have hql := (List.getElem?_eq_some_iff.1 hp).1
    obtain ⟨q, hq⟩ : ∃ q : Nat, q = posL L id := ⟨_, rfl⟩
    rw [← hq] at HP hp hql
    generalize lookL L id = bx at *
    obtain ⟨gb, rfl, hcb⟩ := h2.box_at hp
    obtain ⟨n, hn⟩ : ∃ n : Nat, n = L.length := ⟨_, rfl⟩
    have hqI : (q : Int) < n := by omega
    have hq0 : (0 : Int) ≤ q := by omega
    have H2 := Lib.hid h2
    have HC := Lib.hid hcb
    have HN := Lib.hid hn
    clear h2 hr he hl hS k1 hq hp hql hcb hn
    go_enter Try.func54, Try.ntmps54
    go_wp2_with (go_at_call 45; (with_reducible refine HP.out.mono ?_); rintro e w1 ⟨rfl, hk⟩; have hX1 := HX.out.kd hk; have cX := hX1.cell; have fX := hX1.frozen; have HX1 := Lib.hid hX1; have hK1 := HK.out.trans hk; have cR := (H2.out.1.keeps hK1 (fun h => h)).cell; rw [← HN.out] at cR; have q0 := hK1.cell (p := ⟨gb, q * 4 + 0, none⟩) (HC.out 0 _ rfl) (fun h => h); have q1 := hK1.cell (p := ⟨gb, q * 4 + 1, none⟩) (HC.out 1 _ rfl) (fun h => h); have q2 := hK1.cell (p := ⟨gb, q * 4 + 2, none⟩) (HC.out 2 _ rfl) (fun h => h); have q3 := hK1.cell (p := ⟨gb, q * 4 + 3, none⟩) (HC.out 3 _ rfl) (fun h => h); simp only [Nat.add_zero] at q0; have HK1 := Lib.hid hK1; clear hk hX1 hK1)
    exact bodyPost_ret (results_row_tmp rfl _ _ w.heap.size _ _ _ _ rfl ((((HX1.out.set_ 0 (.int .i32 bx.x0)).set_ 1 (.int .i32 bx.y0)).set_ 2 (.int .i32 bx.x1)).set_ 3 (.int .i32 bx.y1)) Try.underlying47 rfl (by kernel_rfl)) rfl ⟨rfl, by repeat (first | exact HK1.out | refine Keeps.setCell ?_ (by simp) _)⟩
theorem deep_t (n : Nat) (w : World) (hn : (n : Int) ≤ 65536) :
    Calls Try.prog 36 #[.int .i64 (n : Int)] w fun e w' => (∃ d : Nat, e = .returned (.int .i64 (d : Int)) ∧ n < 2 ^ d ∧ (d : Int) ≤ n) ∧ w = w' := by
  go_enter Try.func36, Try.ntmps36
  go_wp2
  go_loopw [0, 3] (fun p q wr => ∃ m d : Nat, p = .int .i64 (m : Int) ∧ q = .int .i64 (d : Int) ∧ m = n / 2 ^ d ∧ d + m ≤ n ∧ wr = w) (fun p _ _ => (intOf p).toNat)
  case atStart => exact ⟨n, 0, rfl, rfl, by simp, by omega, rfl⟩
  case round =>
    obtain ⟨m, d, rfl, rfl, h1, h2, rfl⟩ := hrel
    by_cases hm : 0 < m
    · obtain ⟨h, hh⟩ : ∃ h : Nat, h = m / 2 := ⟨_, rfl⟩
      have hq1 : (m : Int) / 2 = (h : Int) := by omega
      have hq2 : (m : Int).tdiv 2 = (h : Int) := by rw [Int.tdiv_eq_ediv_of_nonneg (by omega)]; exact hq1
      have hmI : (0 : Int) < m := by omega
      have hmx : (m : Int) ≤ 65536 := by omega
      have hdx : (d : Int) ≤ 65536 := by omega
      have HH := Lib.hid (And.intro hh (And.intro h1 h2))
      clear hh h1 h2
      go_wp2
      go_roundw
      case rel =>
        refine ⟨h, d + 1, rfl, by go_num, ?_, ?_, trivial⟩
        · rw [HH.out.1, HH.out.2.1, Nat.div_div_eq_div_mul, Nat.pow_succ]
        · have := HH.out.1; have := HH.out.2.2; omega
      case measure => simp [intOf]; have := HH.out.1; omega
    · obtain rfl : m = 0 := by omega
      have hlt : n < 2 ^ d := by
        rcases Nat.lt_or_ge n (2 ^ d) with h | h
        · exact h
        · have := Nat.div_pos h (Nat.two_pow_pos d); omega
      have HL := Lib.hid (And.intro hlt h2)
      clear hlt h1 h2
      go_wp2
      go_ret
      exact ⟨⟨d, rfl, HL.out.1, by have := HL.out.2; omega⟩, rfl⟩
end Tree
end Go.Proofs.Ytndghakagogmcaa
