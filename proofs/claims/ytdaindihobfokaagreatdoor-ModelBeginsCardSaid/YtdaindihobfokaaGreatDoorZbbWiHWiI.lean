/-
WiH: bytes that are taken off.
WiI: numbers of one and of four bytes that are taken off.
-/
import Derived.Test.YtdaindihobfokaaGreatDoorZbaWiG
namespace Go.Proofs.YtdaindihobfokaaGreatDoor
open Go.RowKit
set_option linter.unusedVariables false
set_option linter.unusedSimpArgs false
attribute [local go_sem] Oper.semAt_some
namespace Wi
open Mem
/-- what is taken off: the list, and how many were taken. -/
def InS (w : World) (ib bb : Nat) (L : List Nat) (at_ : Nat) : Prop := ∃ off c, Blk w ib 248 [.slice (some ⟨bb, off, none⟩) L.length c, .int .i64 (at_ : Int), .int .i64 0] ∧ Bys w (some ⟨bb, off, none⟩) L ∧ bb ≠ ib ∧ at_ ≤ L.length ∧ L.length ≤ c ∧ L.length ≤ 1000000
theorem far_at {b off : Nat} {S : Nat → Prop} (h : ¬ S b) : Far (some ⟨b, off, none⟩) S := fun b' off' p e => by injection e with e; injection e with e1; subst e1; exact h
theorem InS.keeps {w w' : World} {ib bb : Nat} {L : List Nat} {at_ : Nat} {S : Nat → Prop} (h : InS w ib bb L at_) (k : Keeps S w w') (h1 : ¬ S ib) (h2 : ¬ S bb) : InS w' ib bb L at_ := by
  obtain ⟨off, c, hb, hy, hn, r⟩ := h
  exact ⟨off, c, hb.keeps k h1, hy.keeps k (far_at h2), hn, r⟩
theorem InS.k0 {w w' : World} {ib bb : Nat} {L : List Nat} {at_ : Nat} (h : InS w ib bb L at_) (k : Keeps (fun _ => False) w w') : InS w' ib bb L at_ := h.keeps k (fun h => h) (fun h => h)
theorem at_t (ib bb : Nat) (L : List Nat) (at_ : Nat) (w : World) (h : InS w ib bb L at_) : Calls Tryz.prog 150 #[.pointer (some ⟨ib, 0, none⟩)] w fun e w' => e = .returned (.int .i64 (at_ : Int)) ∧ w = w' := by
  obtain ⟨off, c, hb, hy, hn, r⟩ := h
  have c1 := hb.cell 1
  simp only [List.getElem?_cons_zero, List.getElem?_cons_succ] at c1
  clear hb hy r
  go_enter Tryz.func150, Tryz.ntmps150
  go_wp2
  go_ret
  exact ⟨rfl, rfl⟩
theorem right_t (ib bb : Nat) (L : List Nat) (at_ : Nat) (w : World) (h : InS w ib bb L at_) : Calls Tryz.prog 194 #[.pointer (some ⟨ib, 0, none⟩)] w fun e w' => e = .returned (.bool true) ∧ w = w' := by
  obtain ⟨off, c, hb, hy, hn, r⟩ := h
  have c1 := hb.cell 2
  simp only [List.getElem?_cons_zero, List.getElem?_cons_succ] at c1
  clear hb hy r
  go_enter Tryz.func194, Tryz.ntmps194
  go_wp2
  go_ret
  exact ⟨rfl, rfl⟩
theorem fault_t (ib bb : Nat) (L : List Nat) (at_ : Nat) (w : World) (h : InS w ib bb L at_) : Calls Tryz.prog 83 #[.pointer (some ⟨ib, 0, none⟩)] w fun e w' => e = .returned (.tuple #[.int .i64 0, .int .i64 0]) ∧ w = w' := by
  obtain ⟨off, c, hb, hy, hn, r⟩ := h
  have c1 := hb.cell 2
  simp only [List.getElem?_cons_zero, List.getElem?_cons_succ] at c1
  clear hb hy r
  go_enter Tryz.func83, Tryz.ntmps83
  go_wp2
  go_ret2
  exact ⟨rfl, rfl⟩
set_option maxHeartbeats 1000000 in
set_option maxRecDepth 20000 in
theorem end_t (ib bb : Nat) (L : List Nat) (w : World) (h : InS w ib bb L L.length) : Calls Tryz.prog 81 #[.pointer (some ⟨ib, 0, none⟩)] w fun e w' => e = .returned (.int .i64 0) ∧ Keeps (fun _ => False) w w' := by
  have HF := Lib.hid (fault_t ib bb L L.length w h)
  obtain ⟨off, c, hb, hy, hn, r⟩ := h
  have c0 := hb.cell 0
  have c1 := hb.cell 1
  simp only [List.getElem?_cons_zero, List.getElem?_cons_succ] at c0 c1
  clear hb hy r
  go_enter Tryz.func81, Tryz.ntmps81
  go_wp2_with (go_at_call 83; (with_reducible refine HF.out.mono ?_); rintro e w1 ⟨rfl, rfl⟩)
  go_region_held3 (fun W => W.cell? ⟨ib, 0, none⟩ = some (.slice (some ⟨bb, off, none⟩) L.length c) ∧ W.cell? ⟨ib, 1, none⟩ = some (.int .i64 (L.length : Int))) (first | with_reducible assumption | exact ⟨c0, c1⟩) (first | fail)
  go_wp2
  go_ret
  exact ⟨rfl, by (repeat (first | exact Keeps.refl _ _ | assumption | refine Keeps.alloc ?_ _ | refine Keeps.drew ?_))⟩
set_option maxHeartbeats 1000000 in
set_option maxRecDepth 20000 in
theorem some_t (ib bb : Nat) (L : List Nat) (at_ n : Nat) (b0 : Int) (w : World) (h : InS w ib bb L at_) (hle : at_ + n ≤ L.length) (hn0 : 0 < n) : Calls Tryz.prog 149 #[.pointer (some ⟨ib, 0, none⟩), .int .i64 b0, .int .i64 (n : Int)] w fun e w' => ∃ a c, e = .returned (.slice a n c) ∧ Keeps (fun k => k = ib) w w' ∧ InS w' ib bb L (at_ + n) ∧ Bys w' a ((L.drop at_).take n) := by
  have HR := Lib.hid (right_t ib bb L at_ w h)
  obtain ⟨off, c, hb, hy, hn, r1, r2, r3⟩ := h
  obtain ⟨N, hN⟩ : ∃ N, N = L.length := ⟨_, rfl⟩
  rw [← hN] at hb r1 r2 r3 hle
  have c0 := hb.cell 0
  have c1 := hb.cell 1
  have f1 := hb.frozen 1
  simp only [List.getElem?_cons_zero, List.getElem?_cons_succ] at c0 c1
  have e1 : IntKind.i64.wrap ((N : Int) - (at_ : Int)) = ((N - at_ : Nat) : Int) := by rw [IntWalk.i64_in _ (by omega)]; omega
  have e2 : IntKind.i64.wrap ((at_ : Int) + (n : Int)) = ((at_ + n : Nat) : Int) := by rw [IntWalk.i64_in _ (by omega)]; omega
  have g1 : ¬ (((N - at_ : Nat) : Int) < (n : Int)) := by omega
  obtain ⟨hi, hhi⟩ : ∃ hi, hi = at_ + n := ⟨_, rfl⟩
  rw [← hhi] at e2
  have g2 : (at_ : Int) ≤ (hi : Int) := by omega
  have g3 : (hi : Int) ≤ (c : Int) := by omega
  have HH := Lib.hid (And.intro hb (And.intro hy (And.intro hn (And.intro hN (And.intro hhi (And.intro r2 r3))))))
  have HG := Lib.hid (show hi ≤ N by omega)
  have hc : ¬ c = at_ := by omega
  clear hb hy hn hN hhi r1 r2 r3 hle hn0
  go_enter Tryz.func149, Tryz.ntmps149
  go_wp2_with (go_at_call 194; (with_reducible refine HR.out.mono ?_); rintro e w1 ⟨rfl, rfl⟩)
  go_region_held3 (fun W => W.cell? ⟨ib, 0, none⟩ = some (.slice (some ⟨bb, off, none⟩) N c) ∧ W.cell? ⟨ib, 1, none⟩ = some (.int .i64 (at_ : Int))) (first | with_reducible assumption | exact ⟨c0, c1⟩) (first | fail)
  go_wp2
  go_region_held3 (fun W => W.cell? ⟨ib, 0, none⟩ = some (.slice (some ⟨bb, off, none⟩) N c) ∧ W.cell? ⟨ib, 1, none⟩ = some (.int .i64 (at_ : Int))) (first | with_reducible assumption | exact ⟨c0, c1⟩) (first | fail)
  go_wp2
  go_ret
  obtain ⟨hb, hy, hn, hN, hhi, r2, r3⟩ := HH.out
  have hk : Keeps (fun k => k = ib) w (w.setCell ⟨ib, 1, none⟩ (.int .i64 (hi : Int))).drew.drew := ((Keeps.setCell (S := fun k => k = ib) (Keeps.refl _ w) (p := ⟨ib, 1, none⟩) (fun _ => rfl) _).drew).drew
  have hd : hi - at_ = n := by omega
  have hhl : hi ≤ L.length := by rw [← hN]; exact HG.out
  have hy' := hy.keeps hk (far_at hn)
  have hb' : Blk (w.setCell ⟨ib, 1, none⟩ (.int .i64 (hi : Int))).drew.drew ib 248 [.slice (some ⟨bb, off, none⟩) N c, .int .i64 (hi : Int), .int .i64 0] := hb.set_ 1 _
  rw [hN] at hb'
  refine ⟨some ⟨bb, off + at_, none⟩, c - at_, by rw [← hd]; rfl, hk, ⟨off, c, by rw [← hhi]; exact hb', hy', hn, by omega, by omega, by omega⟩, ?_⟩
  intro i x hx
  rw [List.getElem?_take] at hx
  split at hx
  · rw [List.getElem?_drop] at hx
    obtain ⟨b', off', e, hc'⟩ := hy' _ _ hx
    injection e with e; injection e with e1 e2
    subst e1; subst e2
    exact ⟨bb, off + at_, rfl, by rw [Nat.add_assoc]; exact hc'⟩
  · cases hx
end Wi
end Go.Proofs.YtdaindihobfokaaGreatDoor
namespace Go.Proofs.YtdaindihobfokaaGreatDoor
open Go.RowKit
set_option linter.unusedVariables false
set_option linter.unusedSimpArgs false
attribute [local go_sem] Oper.semAt_some
namespace Wi
open Mem
set_option maxHeartbeats 4000000 in
set_option maxRecDepth 20000 in
theorem width_u8 (w : World) : Calls Tryz.prog 112 #[] w fun e w' => e = .returned (.int .i64 1) ∧ w = w' := by
  go_enter Tryz.func112, Tryz.ntmps112
  go_wp2
  go_rounds 9
  go_ret
  exact ⟨rfl, rfl⟩
set_option maxHeartbeats 4000000 in
set_option maxRecDepth 20000 in
theorem width_k (w : World) : Calls Tryz.prog 152 #[] w fun e w' => e = .returned (.int .i64 1) ∧ w = w' := by
  go_enter Tryz.func152, Tryz.ntmps152
  go_wp2
  go_rounds 9
  go_ret
  exact ⟨rfl, rfl⟩
set_option maxHeartbeats 4000000 in
set_option maxRecDepth 20000 in
theorem width_u32 (w : World) : Calls Tryz.prog 197 #[] w fun e w' => e = .returned (.int .i64 4) ∧ w = w' := by
  go_enter Tryz.func197, Tryz.ntmps197
  go_wp2
  go_rounds 33
  go_ret
  exact ⟨rfl, rfl⟩
set_option maxHeartbeats 4000000 in
set_option maxRecDepth 20000 in
theorem width_i32 (w : World) : Calls Tryz.prog 198 #[] w fun e w' => e = .returned (.int .i64 4) ∧ w = w' := by
  have z1 : wrap32 2147483648 = -2147483648 := by kernel_rfl
  have z2 : wrap32 (-4294967296) = 0 := by kernel_rfl
  go_enter Tryz.func198, Tryz.ntmps198
  go_wp2
  go_rounds 33
  go_ret
  exact ⟨rfl, rfl⟩
theorem two_of {w : World} {a : Option Addr} {x : Nat} {X : List Nat} (h : Bys w a (x :: X)) : ∃ b off, a = some ⟨b, off, none⟩ := by
  obtain ⟨b, off, e, _⟩ := h 0 x rfl
  exact ⟨b, off, e⟩
theorem Bys.get {w : World} {b off : Nat} {L : List Nat} (h : Bys w (some ⟨b, off, none⟩) L) (i x : Nat) (hx : L[i]? = some x) : w.cell? ⟨b, off + i, none⟩ = some (.int .u8 (x : Int)) := by
  obtain ⟨b', off', e, hc⟩ := h i x hx
  injection e with e; injection e with e1 e2
  subst e1; subst e2; exact hc
set_option maxHeartbeats 1000000 in
set_option maxRecDepth 20000 in
theorem fixed_1 (ib bb : Nat) (L : List Nat) (at_ x : Nat) (R : List Nat) (w : World) (h : InS w ib bb L at_) (hd : L.drop at_ = x :: R) (hx : x < 256) : Calls Tryz.prog 111 #[.pointer (some ⟨ib, 0, none⟩), .int .i64 1] w fun e w' => e = .returned (.int .u64 (x : Int)) ∧ Keeps (fun k => k = ib) w w' ∧ InS w' ib bb L (at_ + 1) := by
  have hl : at_ + 1 ≤ L.length := by have := congrArg List.length hd; simp at this; omega
  have HA := Lib.hid (at_t ib bb L at_ w h)
  have HS := Lib.hid (some_t ib bb L at_ 1 at_ w h hl (by decide))
  rw [hd] at HS
  have hw : IntKind.u64.wrap (x : Int) = (x : Int) := IntWalk.u64_in _ (by omega)
  have ho : bits .or .u64 0 (x : Int) = (x : Int) := by have := or64 0 x (by omega) (by omega); rw [Nat.zero_or] at this; exact this
  clear h hl hd hx
  go_enter Tryz.func111, Tryz.ntmps111
  go_wp2_with (first
    | (go_at_call 150; (with_reducible refine HA.out.mono ?_); rintro e w1 ⟨rfl, rfl⟩)
    | (go_at_call 149; (refine HS.out.mono ?_); rintro e w2 ⟨a, c, rfl, hk, hi, hy⟩; obtain ⟨b, off, rfl⟩ := two_of hy; have c0 := hy.get 0 _ rfl; rw [Nat.add_zero] at c0; have HX := Lib.hid (And.intro hk hi); clear hk hi hy))
  go_rounds 2
  go_ret
  exact ⟨rfl, HX.out⟩
set_option maxHeartbeats 4000000 in
set_option maxRecDepth 20000 in
theorem fixed_4 (ib bb : Nat) (L : List Nat) (at_ x0 x1 x2 x3 : Nat) (R : List Nat) (w : World) (h : InS w ib bb L at_) (hd : L.drop at_ = x0 :: x1 :: x2 :: x3 :: R) (h0 : x0 < 256) (h1 : x1 < 256) (h2 : x2 < 256) (h3 : x3 < 256) : Calls Tryz.prog 111 #[.pointer (some ⟨ib, 0, none⟩), .int .i64 4] w fun e w' => e = .returned (.int .u64 (un4 x0 x1 x2 x3 : Int)) ∧ Keeps (fun k => k = ib) w w' ∧ InS w' ib bb L (at_ + 4) := by
  have hl : at_ + 4 ≤ L.length := by have := congrArg List.length hd; simp at this; omega
  have HA := Lib.hid (at_t ib bb L at_ w h)
  have HS := Lib.hid (some_t ib bb L at_ 4 at_ w h hl (by decide))
  rw [hd] at HS
  have hw0 : IntKind.u64.wrap (x0 : Int) = (x0 : Int) := IntWalk.u64_in _ (by omega)
  have hw1 : IntKind.u64.wrap (x1 : Int) = (x1 : Int) := IntWalk.u64_in _ (by omega)
  have hw2 : IntKind.u64.wrap (x2 : Int) = (x2 : Int) := IntWalk.u64_in _ (by omega)
  have hw3 : IntKind.u64.wrap (x3 : Int) = (x3 : Int) := IntWalk.u64_in _ (by omega)
  have hv1 : IntKind.u64.wrap ((x1 : Int) * 256) = (x1 : Int) * 256 := IntWalk.u64_in _ (by omega)
  have hv2 : IntKind.u64.wrap ((x2 : Int) * 65536) = (x2 : Int) * 65536 := IntWalk.u64_in _ (by omega)
  have hv3 : IntKind.u64.wrap ((x3 : Int) * 16777216) = (x3 : Int) * 16777216 := IntWalk.u64_in _ (by omega)
  have ho : bits .or .u64 0 (x0 : Int) = (x0 : Int) := by have := or64 0 x0 (by omega) (by omega); rw [Nat.zero_or] at this; exact this
  have o1 : bits .or .u64 (x0 : Int) ((x1 : Int) * 256) = ((x0 + x1 * 256 : Nat) : Int) := by
    have := or64 x0 (x1 * 256) (by omega) (by omega)
    rw [or_join 8 x0 x1 h0] at this
    exact this
  obtain ⟨s1, hs1⟩ : ∃ s1, s1 = x0 + x1 * 256 := ⟨_, rfl⟩
  rw [← hs1] at o1
  have o2 : bits .or .u64 (s1 : Int) ((x2 : Int) * 65536) = ((s1 + x2 * 65536 : Nat) : Int) := by
    have := or64 s1 (x2 * 65536) (by omega) (by omega)
    rw [or_join 16 s1 x2 (by omega)] at this
    exact this
  obtain ⟨s2, hs2⟩ : ∃ s2, s2 = s1 + x2 * 65536 := ⟨_, rfl⟩
  rw [← hs2] at o2
  have o3 : bits .or .u64 (s2 : Int) ((x3 : Int) * 16777216) = ((s2 + x3 * 16777216 : Nat) : Int) := by
    have := or64 s2 (x3 * 16777216) (by omega) (by omega)
    rw [or_join 24 s2 x3 (by omega)] at this
    exact this
  obtain ⟨s3, hs3⟩ : ∃ s3, s3 = s2 + x3 * 16777216 := ⟨_, rfl⟩
  rw [← hs3] at o3
  have HV := Lib.hid (show s3 = un4 x0 x1 x2 x3 by unfold un4; omega)
  clear h hl hd h0 h1 h2 h3 hs1 hs2 hs3
  go_enter Tryz.func111, Tryz.ntmps111
  go_wp2_with (first
    | (go_at_call 150; (with_reducible refine HA.out.mono ?_); rintro e w1 ⟨rfl, rfl⟩)
    | (go_at_call 149; (refine HS.out.mono ?_); rintro e w2 ⟨a, c, rfl, hk, hi, hy⟩; obtain ⟨b, off, rfl⟩ := two_of hy; have c0 := hy.get 0 _ rfl; rw [Nat.add_zero] at c0; have c1 := hy.get 1 _ rfl; have c2 := hy.get 2 _ rfl; have c3 := hy.get 3 _ rfl; have HX := Lib.hid (And.intro hk hi); clear hk hi hy))
  go_rounds 5
  go_ret
  rw [← HV.out]
  exact ⟨rfl, HX.out⟩
end Wi
end Go.Proofs.YtdaindihobfokaaGreatDoor
