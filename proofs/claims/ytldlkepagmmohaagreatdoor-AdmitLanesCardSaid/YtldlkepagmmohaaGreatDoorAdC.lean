/-
  AdC: the lane of a command, as the program and as the document have it.
-/
import Derived.Test.YtldlkepagmmohaaGreatDoorAdB
namespace Go.Proofs.YtldlkepagmmohaaGreatDoor
open Go.RowKit
set_option linter.unusedVariables false
set_option linter.unusedSimpArgs false
attribute [local go_sem] Oper.semAt_some
namespace Ad
open Mem
/-- the lane of a command; -1: none. -/
def laneV (s q o f u b v l t c i k id : Int) : Int := if Fit s q o f u b v l t c i then (if k = 1 ∨ k = 2 then wrap64 (Int.tmod id s) else if k = 3 ∨ k = 4 ∨ k = 5 then s else -1) else -1
set_option maxHeartbeats 4000000 in
set_option maxRecDepth 100000 in
theorem lane_t (s q o f u b v l t c i : Int) (k id nu ti x y dw sk sz : Int) (va ha : Option Addr) (vn vc hn hc : Nat) (rl : ByteArray) (w : World) : Calls Tryz.prog 4 #[.agg #[.int .i64 s, .int .i64 q, .int .i64 o, .int .i64 f, .int .i64 u, .int .i64 b, .int .i64 v, .int .i64 l, .int .i64 t, .int .i64 c, .int .i64 i], .agg #[.int .u8 k, .int .u32 id, .int .u32 nu, .int .u32 ti, .int .i32 x, .int .i32 y, .int .u32 dw, .int .u8 sk, .slice va vn vc, .slice ha hn hc, .int .i32 sz, .string rl]] w fun e w' => e = .returned (.int .i64 (laneV s q o f u b v l t c i k id)) ∧ Keeps (fun _ => False) w w' := by
  have hwr : 1 ≤ s ∧ s ≤ 8 → IntKind.u32.wrap s = s := fun h => IntWalk.u32_in _ (by omega)
  have b1 := (Blk.new w 23 [.int .i64 s, .int .i64 q, .int .i64 o, .int .i64 f, .int .i64 u, .int .i64 b, .int .i64 v, .int .i64 l, .int .i64 t, .int .i64 c, .int .i64 i]).alloc (.cells #[.int .u8 k, .int .u32 id, .int .u32 nu, .int .u32 ti, .int .i32 x, .int .i32 y, .int .u32 dw, .int .u8 sk, .slice va vn vc, .slice ha hn hc, .int .i32 sz, .string rl] 32)
  have b2 := Blk.new (w.alloc (.cells #[.int .i64 s, .int .i64 q, .int .i64 o, .int .i64 f, .int .i64 u, .int .i64 b, .int .i64 v, .int .i64 l, .int .i64 t, .int .i64 c, .int .i64 i] 23)) 32 [.int .u8 k, .int .u32 id, .int .u32 nu, .int .u32 ti, .int .i32 x, .int .i32 y, .int .u32 dw, .int .u8 sk, .slice va vn vc, .slice ha hn hc, .int .i32 sz, .string rl]
  simp only [World.size_alloc] at b2
  have HB := Lib.hid (And.intro b1 b2)
  have HK0 := Lib.hid (show Keeps (fun _ => False) w ((w.alloc (.cells #[.int .i64 s, .int .i64 q, .int .i64 o, .int .i64 f, .int .i64 u, .int .i64 b, .int .i64 v, .int .i64 l, .int .i64 t, .int .i64 c, .int .i64 i] 23)).alloc (.cells #[.int .u8 k, .int .u32 id, .int .u32 nu, .int .u32 ti, .int .i32 x, .int .i32 y, .int .u32 dw, .int .u8 sk, .slice va vn vc, .slice ha hn hc, .int .i32 sz, .string rl] 32)) from by (repeat (first | exact Keeps.refl _ _ | assumption | refine Keeps.alloc ?_ _ | refine Keeps.drew ?_ | refine Keeps.setCell ?_ (fun h => absurd h (by simp)) _)))
  clear b1 b2
  by_cases hf : Fit s q o f u b v l t c i
  · have hs : 1 ≤ s ∧ s ≤ 8 := hf.1
    have hw := hwr hs
    have hn0 : ¬ s = 0 := by omega
    clear hwr
    have HF := Lib.hid hf
    have hR1 : k = 1 ∨ k = 2 → laneV s q o f u b v l t c i k id = wrap64 (Int.tmod id s) := fun h => by unfold laneV; rw [if_pos hf, if_pos h]
    have hR2 : k = 3 ∨ k = 4 ∨ k = 5 → laneV s q o f u b v l t c i k id = s := fun h => by unfold laneV; rw [if_pos hf, if_neg (by omega), if_pos h]
    have hR3 : ¬ (k = 1 ∨ k = 2) → ¬ (k = 3 ∨ k = 4 ∨ k = 5) → laneV s q o f u b v l t c i k id = -1 := fun h h' => by unfold laneV; rw [if_pos hf, if_neg h, if_neg h']
    generalize laneV s q o f u b v l t c i k id = R at hR1 hR2 hR3 ⊢
    have HR := Lib.hid (And.intro hR1 (And.intro hR2 hR3))
    clear hs hR1 hR2 hR3
    go_enter Tryz.func4, Tryz.ntmps4
    go_wp2_with (go_at_call 7; refine (config_t _ _ _ _ _ _ _ _ _ _ _ _).mono ?_; rintro e w1 ⟨rfl, hk1⟩; simp only [if_pos HF.out]; have HK1 := Lib.hid (HK0.out.trans hk1); have c0 := (HB.out.1.kd hk1).cell 0; have c1 := (HB.out.2.kd hk1).cell 0; have c2 := (HB.out.2.kd hk1).cell 1; simp only [List.getElem?_cons_zero, List.getElem?_cons_succ] at c0 c1 c2; clear hk1)
    all_goals
      go_ret
      have h123 := HR.out
      clear HR
      try simp only [beq_iff_eq, beq_eq_false_iff_ne, ne_eq, Bool.not_eq_true] at *
      obtain ⟨h1, h2, h3⟩ := h123
      refine ⟨?_, HK1.out⟩
      first
        | (rw [h1 (by omega)]; rfl)
        | (rw [h2 (by omega)]; rfl)
        | (rw [h3 (by omega) (by omega)]; rfl)
  · have hR : laneV s q o f u b v l t c i k id = -1 := by unfold laneV; rw [if_neg hf]
    rw [hR]
    clear hR hwr
    go_enter Tryz.func4, Tryz.ntmps4
    go_wp2_with (go_at_call 7; refine (config_t _ _ _ _ _ _ _ _ _ _ _ _).mono ?_; rintro e w1 ⟨rfl, hk1⟩; simp only [if_neg hf]; have HK1 := Lib.hid (HK0.out.trans hk1); clear hk1)
    go_ret
    exact ⟨rfl, HK1.out⟩
theorem fits_k (s q o f u b v l t c i : Int) (w : World) : Calls Tryz.prog 8 #[.agg #[.int .i64 s, .int .i64 q, .int .i64 o, .int .i64 f, .int .i64 u, .int .i64 b, .int .i64 v, .int .i64 l, .int .i64 t, .int .i64 c, .int .i64 i]] w fun e w' => e = .returned (.bool (decide (Fit s q o f u b v l t c i))) ∧ Keeps (fun _ => False) w w' :=
  (fits_t s q o f u b v l t c i w).mono fun e w' ⟨h1, h2⟩ => ⟨h1, by rw [← h2]; (repeat (first | exact Keeps.refl _ _ | assumption | refine Keeps.alloc ?_ _ | refine Keeps.drew ?_ | refine Keeps.setCell ?_ (fun h => absurd h (by simp)) _))⟩
set_option maxHeartbeats 4000000 in
set_option maxRecDepth 100000 in
theorem rlane_t (s q o f u b v l t c i : Int) (k id nu ti x y dw sk sz : Int) (va ha : Option Addr) (vn vc hn hc : Nat) (rl : ByteArray) (w : World) : Calls Tryz.prog 5 #[.agg #[.int .i64 s, .int .i64 q, .int .i64 o, .int .i64 f, .int .i64 u, .int .i64 b, .int .i64 v, .int .i64 l, .int .i64 t, .int .i64 c, .int .i64 i], .agg #[.int .u8 k, .int .u32 id, .int .u32 nu, .int .u32 ti, .int .i32 x, .int .i32 y, .int .u32 dw, .int .u8 sk, .slice va vn vc, .slice ha hn hc, .int .i32 sz, .string rl]] w fun e w' => e = .returned (.int .i64 (laneV s q o f u b v l t c i k id)) ∧ Keeps (fun _ => False) w w' := by
  have hwr : 1 ≤ s ∧ s ≤ 8 → IntKind.u32.wrap s = s := fun h => IntWalk.u32_in _ (by omega)
  have b1 := (Blk.new w 23 [.int .i64 s, .int .i64 q, .int .i64 o, .int .i64 f, .int .i64 u, .int .i64 b, .int .i64 v, .int .i64 l, .int .i64 t, .int .i64 c, .int .i64 i]).alloc (.cells #[.int .u8 k, .int .u32 id, .int .u32 nu, .int .u32 ti, .int .i32 x, .int .i32 y, .int .u32 dw, .int .u8 sk, .slice va vn vc, .slice ha hn hc, .int .i32 sz, .string rl] 32)
  have b2 := Blk.new (w.alloc (.cells #[.int .i64 s, .int .i64 q, .int .i64 o, .int .i64 f, .int .i64 u, .int .i64 b, .int .i64 v, .int .i64 l, .int .i64 t, .int .i64 c, .int .i64 i] 23)) 32 [.int .u8 k, .int .u32 id, .int .u32 nu, .int .u32 ti, .int .i32 x, .int .i32 y, .int .u32 dw, .int .u8 sk, .slice va vn vc, .slice ha hn hc, .int .i32 sz, .string rl]
  simp only [World.size_alloc] at b2
  have HB := Lib.hid (And.intro b1 b2)
  have HK0 := Lib.hid (show Keeps (fun _ => False) w ((w.alloc (.cells #[.int .i64 s, .int .i64 q, .int .i64 o, .int .i64 f, .int .i64 u, .int .i64 b, .int .i64 v, .int .i64 l, .int .i64 t, .int .i64 c, .int .i64 i] 23)).alloc (.cells #[.int .u8 k, .int .u32 id, .int .u32 nu, .int .u32 ti, .int .i32 x, .int .i32 y, .int .u32 dw, .int .u8 sk, .slice va vn vc, .slice ha hn hc, .int .i32 sz, .string rl] 32)) from by (repeat (first | exact Keeps.refl _ _ | assumption | refine Keeps.alloc ?_ _ | refine Keeps.drew ?_ | refine Keeps.setCell ?_ (fun h => absurd h (by simp)) _)))
  clear b1 b2
  by_cases hf : Fit s q o f u b v l t c i
  · have hs : 1 ≤ s ∧ s ≤ 8 := hf.1
    have hw := hwr hs
    have hn0 : ¬ s = 0 := by omega
    clear hwr
    have HF := Lib.hid hf
    have hR1 : k = 1 ∨ k = 2 → laneV s q o f u b v l t c i k id = wrap64 (Int.tmod id s) := fun h => by unfold laneV; rw [if_pos hf, if_pos h]
    have hR2 : k = 3 ∨ k = 4 ∨ k = 5 → laneV s q o f u b v l t c i k id = s := fun h => by unfold laneV; rw [if_pos hf, if_neg (by omega), if_pos h]
    have hR3 : ¬ (k = 1 ∨ k = 2) → ¬ (k = 3 ∨ k = 4 ∨ k = 5) → laneV s q o f u b v l t c i k id = -1 := fun h h' => by unfold laneV; rw [if_pos hf, if_neg h, if_neg h']
    generalize laneV s q o f u b v l t c i k id = R at hR1 hR2 hR3 ⊢
    have HR := Lib.hid (And.intro hR1 (And.intro hR2 hR3))
    clear hs hR1 hR2 hR3
    go_enter Tryz.func5, Tryz.ntmps5
    go_wp2_with (go_at_call 8; refine (fits_k _ _ _ _ _ _ _ _ _ _ _ _).mono ?_; rintro e w1 ⟨rfl, hk1⟩; simp only [decide_eq_true HF.out]; have HK1 := Lib.hid (HK0.out.trans hk1); have c0 := (HB.out.1.kd hk1).cell 0; have c1 := (HB.out.2.kd hk1).cell 0; have c2 := (HB.out.2.kd hk1).cell 1; simp only [List.getElem?_cons_zero, List.getElem?_cons_succ] at c0 c1 c2; clear hk1)
    all_goals
      go_ret
      have h123 := HR.out
      clear HR
      try simp only [beq_iff_eq, beq_eq_false_iff_ne, ne_eq, Bool.not_eq_true] at *
      obtain ⟨h1, h2, h3⟩ := h123
      refine ⟨?_, HK1.out⟩
      first
        | (rw [h1 (by omega)]; rfl)
        | (rw [h2 (by omega)]; rfl)
        | (rw [h3 (by omega) (by omega)]; rfl)
  · have hR : laneV s q o f u b v l t c i k id = -1 := by unfold laneV; rw [if_neg hf]
    rw [hR]
    clear hR hwr
    go_enter Tryz.func5, Tryz.ntmps5
    go_wp2_with (go_at_call 8; refine (fits_k _ _ _ _ _ _ _ _ _ _ _ _).mono ?_; rintro e w1 ⟨rfl, hk1⟩; simp only [decide_eq_false hf]; have HK1 := Lib.hid (HK0.out.trans hk1); clear hk1)
    go_ret
    exact ⟨rfl, HK1.out⟩
end Ad
end Go.Proofs.YtldlkepagmmohaaGreatDoor
