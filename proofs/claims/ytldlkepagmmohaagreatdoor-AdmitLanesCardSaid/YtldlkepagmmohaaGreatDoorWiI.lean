/-
  WiI: numbers of one and of four bytes that are taken off.
-/
import Derived.Test.YtldlkepagmmohaaGreatDoorWiH
namespace Go.Proofs.YtldlkepagmmohaaGreatDoor
open Go.RowKit
set_option linter.unusedVariables false
set_option linter.unusedSimpArgs false
attribute [local go_sem] Oper.semAt_some
namespace Wi
open Mem
set_option maxHeartbeats 4000000 in
set_option maxRecDepth 20000 in
theorem width_u8 (w : World) : Calls Tryz.prog 77 #[] w fun e w' => e = .returned (.int .i64 1) ∧ w = w' := by
  go_enter Tryz.func77, Tryz.ntmps77
  go_wp2
  go_rounds 9
  go_ret
  exact ⟨rfl, rfl⟩
set_option maxHeartbeats 4000000 in
set_option maxRecDepth 20000 in
theorem width_k (w : World) : Calls Tryz.prog 122 #[] w fun e w' => e = .returned (.int .i64 1) ∧ w = w' := by
  go_enter Tryz.func122, Tryz.ntmps122
  go_wp2
  go_rounds 9
  go_ret
  exact ⟨rfl, rfl⟩
set_option maxHeartbeats 4000000 in
set_option maxRecDepth 20000 in
theorem width_u32 (w : World) : Calls Tryz.prog 159 #[] w fun e w' => e = .returned (.int .i64 4) ∧ w = w' := by
  go_enter Tryz.func159, Tryz.ntmps159
  go_wp2
  go_rounds 33
  go_ret
  exact ⟨rfl, rfl⟩
set_option maxHeartbeats 4000000 in
set_option maxRecDepth 20000 in
theorem width_i32 (w : World) : Calls Tryz.prog 160 #[] w fun e w' => e = .returned (.int .i64 4) ∧ w = w' := by
  have z1 : wrap32 2147483648 = -2147483648 := by kernel_rfl
  have z2 : wrap32 (-4294967296) = 0 := by kernel_rfl
  go_enter Tryz.func160, Tryz.ntmps160
  go_wp2
  go_rounds 33
  go_ret
  exact ⟨rfl, rfl⟩
theorem two_of {w : World} {a : Option Addr} {x : Nat} {X : List Nat} (h : Bys w a (x :: X)) : ∃ b off, a = some ⟨b, off, none⟩ := by
  obtain ⟨b, off, e, _⟩ := h 0 x rfl
  exact ⟨b, off, e⟩
theorem Bys.get {w : World} {b off : Nat} {L : List Nat} (h : Bys w (some ⟨b, off, none⟩) L) (i x : Nat) (hx : L[i]? = some x) : w.cell? ⟨b, off + i, none⟩ = some (.int .u8 (x : Int)) := by
  obtain ⟨b', off', e, hc⟩ := h i x hx
  injection e with e; injection e with e1 e2
  subst e1; subst e2; exact hc
set_option maxHeartbeats 1000000 in
set_option maxRecDepth 20000 in
theorem fixed_1 (ib bb : Nat) (L : List Nat) (at_ x : Nat) (R : List Nat) (w : World) (h : InS w ib bb L at_) (hd : L.drop at_ = x :: R) (hx : x < 256) : Calls Tryz.prog 76 #[.pointer (some ⟨ib, 0, none⟩), .int .i64 1] w fun e w' => e = .returned (.int .u64 (x : Int)) ∧ Keeps (fun k => k = ib) w w' ∧ InS w' ib bb L (at_ + 1) := by
  have hl : at_ + 1 ≤ L.length := by have := congrArg List.length hd; simp at this; omega
  have HA := Lib.hid (at_t ib bb L at_ w h)
  have HS := Lib.hid (some_t ib bb L at_ 1 at_ w h hl (by decide))
  rw [hd] at HS
  have hw : IntKind.u64.wrap (x : Int) = (x : Int) := IntWalk.u64_in _ (by omega)
  have ho : bits .or .u64 0 (x : Int) = (x : Int) := by have := or64 0 x (by omega) (by omega); rw [Nat.zero_or] at this; exact this
  clear h hl hd hx
  go_enter Tryz.func76, Tryz.ntmps76
  go_wp2_with (first
    | (go_at_call 120; (with_reducible refine HA.out.mono ?_); rintro e w1 ⟨rfl, rfl⟩)
    | (go_at_call 119; (refine HS.out.mono ?_); rintro e w2 ⟨a, c, rfl, hk, hi, hy⟩; obtain ⟨b, off, rfl⟩ := two_of hy; have c0 := hy.get 0 _ rfl; rw [Nat.add_zero] at c0; have HX := Lib.hid (And.intro hk hi); clear hk hi hy))
  go_rounds 2
  go_ret
  exact ⟨rfl, HX.out⟩
set_option maxHeartbeats 4000000 in
set_option maxRecDepth 20000 in
theorem fixed_4 (ib bb : Nat) (L : List Nat) (at_ x0 x1 x2 x3 : Nat) (R : List Nat) (w : World) (h : InS w ib bb L at_) (hd : L.drop at_ = x0 :: x1 :: x2 :: x3 :: R) (h0 : x0 < 256) (h1 : x1 < 256) (h2 : x2 < 256) (h3 : x3 < 256) : Calls Tryz.prog 76 #[.pointer (some ⟨ib, 0, none⟩), .int .i64 4] w fun e w' => e = .returned (.int .u64 (un4 x0 x1 x2 x3 : Int)) ∧ Keeps (fun k => k = ib) w w' ∧ InS w' ib bb L (at_ + 4) := by
  have hl : at_ + 4 ≤ L.length := by have := congrArg List.length hd; simp at this; omega
  have HA := Lib.hid (at_t ib bb L at_ w h)
  have HS := Lib.hid (some_t ib bb L at_ 4 at_ w h hl (by decide))
  rw [hd] at HS
  have hw0 : IntKind.u64.wrap (x0 : Int) = (x0 : Int) := IntWalk.u64_in _ (by omega)
  have hw1 : IntKind.u64.wrap (x1 : Int) = (x1 : Int) := IntWalk.u64_in _ (by omega)
  have hw2 : IntKind.u64.wrap (x2 : Int) = (x2 : Int) := IntWalk.u64_in _ (by omega)
  have hw3 : IntKind.u64.wrap (x3 : Int) = (x3 : Int) := IntWalk.u64_in _ (by omega)
  have hv1 : IntKind.u64.wrap ((x1 : Int) * 256) = (x1 : Int) * 256 := IntWalk.u64_in _ (by omega)
  have hv2 : IntKind.u64.wrap ((x2 : Int) * 65536) = (x2 : Int) * 65536 := IntWalk.u64_in _ (by omega)
  have hv3 : IntKind.u64.wrap ((x3 : Int) * 16777216) = (x3 : Int) * 16777216 := IntWalk.u64_in _ (by omega)
  have ho : bits .or .u64 0 (x0 : Int) = (x0 : Int) := by have := or64 0 x0 (by omega) (by omega); rw [Nat.zero_or] at this; exact this
  have o1 : bits .or .u64 (x0 : Int) ((x1 : Int) * 256) = ((x0 + x1 * 256 : Nat) : Int) := by
    have := or64 x0 (x1 * 256) (by omega) (by omega)
    rw [or_join 8 x0 x1 h0] at this
    exact this
  obtain ⟨s1, hs1⟩ : ∃ s1, s1 = x0 + x1 * 256 := ⟨_, rfl⟩
  rw [← hs1] at o1
  have o2 : bits .or .u64 (s1 : Int) ((x2 : Int) * 65536) = ((s1 + x2 * 65536 : Nat) : Int) := by
    have := or64 s1 (x2 * 65536) (by omega) (by omega)
    rw [or_join 16 s1 x2 (by omega)] at this
    exact this
  obtain ⟨s2, hs2⟩ : ∃ s2, s2 = s1 + x2 * 65536 := ⟨_, rfl⟩
  rw [← hs2] at o2
  have o3 : bits .or .u64 (s2 : Int) ((x3 : Int) * 16777216) = ((s2 + x3 * 16777216 : Nat) : Int) := by
    have := or64 s2 (x3 * 16777216) (by omega) (by omega)
    rw [or_join 24 s2 x3 (by omega)] at this
    exact this
  obtain ⟨s3, hs3⟩ : ∃ s3, s3 = s2 + x3 * 16777216 := ⟨_, rfl⟩
  rw [← hs3] at o3
  have HV := Lib.hid (show s3 = un4 x0 x1 x2 x3 by unfold un4; omega)
  clear h hl hd h0 h1 h2 h3 hs1 hs2 hs3
  go_enter Tryz.func76, Tryz.ntmps76
  go_wp2_with (first
    | (go_at_call 120; (with_reducible refine HA.out.mono ?_); rintro e w1 ⟨rfl, rfl⟩)
    | (go_at_call 119; (refine HS.out.mono ?_); rintro e w2 ⟨a, c, rfl, hk, hi, hy⟩; obtain ⟨b, off, rfl⟩ := two_of hy; have c0 := hy.get 0 _ rfl; rw [Nat.add_zero] at c0; have c1 := hy.get 1 _ rfl; have c2 := hy.get 2 _ rfl; have c3 := hy.get 3 _ rfl; have HX := Lib.hid (And.intro hk hi); clear hk hi hy))
  go_rounds 5
  go_ret
  rw [← HV.out]
  exact ⟨rfl, HX.out⟩
end Wi
end Go.Proofs.YtldlkepagmmohaaGreatDoor
