/-
  WiH: bytes that are taken off.
-/
import Derived.Test.YtldlkepagmmohaaGreatDoorWiG
namespace Go.Proofs.YtldlkepagmmohaaGreatDoor
open Go.RowKit
set_option linter.unusedVariables false
set_option linter.unusedSimpArgs false
attribute [local go_sem] Oper.semAt_some
namespace Wi
open Mem
/-- what is taken off: the list, and how many were taken. -/
def InS (w : World) (ib bb : Nat) (L : List Nat) (at_ : Nat) : Prop := ∃ off c, Blk w ib 158 [.slice (some ⟨bb, off, none⟩) L.length c, .int .i64 (at_ : Int), .int .i64 0] ∧ Bys w (some ⟨bb, off, none⟩) L ∧ bb ≠ ib ∧ at_ ≤ L.length ∧ L.length ≤ c ∧ L.length ≤ 1000000
theorem far_at {b off : Nat} {S : Nat → Prop} (h : ¬ S b) : Far (some ⟨b, off, none⟩) S := fun b' off' p e => by injection e with e; injection e with e1; subst e1; exact h
theorem InS.keeps {w w' : World} {ib bb : Nat} {L : List Nat} {at_ : Nat} {S : Nat → Prop} (h : InS w ib bb L at_) (k : Keeps S w w') (h1 : ¬ S ib) (h2 : ¬ S bb) : InS w' ib bb L at_ := by
  obtain ⟨off, c, hb, hy, hn, r⟩ := h
  exact ⟨off, c, hb.keeps k h1, hy.keeps k (far_at h2), hn, r⟩
theorem InS.k0 {w w' : World} {ib bb : Nat} {L : List Nat} {at_ : Nat} (h : InS w ib bb L at_) (k : Keeps (fun _ => False) w w') : InS w' ib bb L at_ := h.keeps k (fun h => h) (fun h => h)
theorem at_t (ib bb : Nat) (L : List Nat) (at_ : Nat) (w : World) (h : InS w ib bb L at_) : Calls Tryz.prog 120 #[.pointer (some ⟨ib, 0, none⟩)] w fun e w' => e = .returned (.int .i64 (at_ : Int)) ∧ w = w' := by
  obtain ⟨off, c, hb, hy, hn, r⟩ := h
  have c1 := hb.cell 1
  simp only [List.getElem?_cons_zero, List.getElem?_cons_succ] at c1
  clear hb hy r
  go_enter Tryz.func120, Tryz.ntmps120
  go_wp2
  go_ret
  exact ⟨rfl, rfl⟩
theorem right_t (ib bb : Nat) (L : List Nat) (at_ : Nat) (w : World) (h : InS w ib bb L at_) : Calls Tryz.prog 156 #[.pointer (some ⟨ib, 0, none⟩)] w fun e w' => e = .returned (.bool true) ∧ w = w' := by
  obtain ⟨off, c, hb, hy, hn, r⟩ := h
  have c1 := hb.cell 2
  simp only [List.getElem?_cons_zero, List.getElem?_cons_succ] at c1
  clear hb hy r
  go_enter Tryz.func156, Tryz.ntmps156
  go_wp2
  go_ret
  exact ⟨rfl, rfl⟩
theorem fault_t (ib bb : Nat) (L : List Nat) (at_ : Nat) (w : World) (h : InS w ib bb L at_) : Calls Tryz.prog 59 #[.pointer (some ⟨ib, 0, none⟩)] w fun e w' => e = .returned (.tuple #[.int .i64 0, .int .i64 0]) ∧ w = w' := by
  obtain ⟨off, c, hb, hy, hn, r⟩ := h
  have c1 := hb.cell 2
  simp only [List.getElem?_cons_zero, List.getElem?_cons_succ] at c1
  clear hb hy r
  go_enter Tryz.func59, Tryz.ntmps59
  go_wp2
  go_ret2
  exact ⟨rfl, rfl⟩
set_option maxHeartbeats 1000000 in
set_option maxRecDepth 20000 in
theorem end_t (ib bb : Nat) (L : List Nat) (w : World) (h : InS w ib bb L L.length) : Calls Tryz.prog 57 #[.pointer (some ⟨ib, 0, none⟩)] w fun e w' => e = .returned (.int .i64 0) ∧ Keeps (fun _ => False) w w' := by
  have HF := Lib.hid (fault_t ib bb L L.length w h)
  obtain ⟨off, c, hb, hy, hn, r⟩ := h
  have c0 := hb.cell 0
  have c1 := hb.cell 1
  simp only [List.getElem?_cons_zero, List.getElem?_cons_succ] at c0 c1
  clear hb hy r
  go_enter Tryz.func57, Tryz.ntmps57
  go_wp2_with (go_at_call 59; (with_reducible refine HF.out.mono ?_); rintro e w1 ⟨rfl, rfl⟩)
  go_region_held3 (fun W => W.cell? ⟨ib, 0, none⟩ = some (.slice (some ⟨bb, off, none⟩) L.length c) ∧ W.cell? ⟨ib, 1, none⟩ = some (.int .i64 (L.length : Int))) (first | with_reducible assumption | exact ⟨c0, c1⟩) (first | fail)
  go_wp2
  go_ret
  exact ⟨rfl, by (repeat (first | exact Keeps.refl _ _ | assumption | refine Keeps.alloc ?_ _ | refine Keeps.drew ?_))⟩
set_option maxHeartbeats 1000000 in
set_option maxRecDepth 20000 in
theorem some_t (ib bb : Nat) (L : List Nat) (at_ n : Nat) (b0 : Int) (w : World) (h : InS w ib bb L at_) (hle : at_ + n ≤ L.length) (hn0 : 0 < n) : Calls Tryz.prog 119 #[.pointer (some ⟨ib, 0, none⟩), .int .i64 b0, .int .i64 (n : Int)] w fun e w' => ∃ a c, e = .returned (.slice a n c) ∧ Keeps (fun k => k = ib) w w' ∧ InS w' ib bb L (at_ + n) ∧ Bys w' a ((L.drop at_).take n) := by
  have HR := Lib.hid (right_t ib bb L at_ w h)
  obtain ⟨off, c, hb, hy, hn, r1, r2, r3⟩ := h
  obtain ⟨N, hN⟩ : ∃ N, N = L.length := ⟨_, rfl⟩
  rw [← hN] at hb r1 r2 r3 hle
  have c0 := hb.cell 0
  have c1 := hb.cell 1
  have f1 := hb.frozen 1
  simp only [List.getElem?_cons_zero, List.getElem?_cons_succ] at c0 c1
  have e1 : IntKind.i64.wrap ((N : Int) - (at_ : Int)) = ((N - at_ : Nat) : Int) := by rw [IntWalk.i64_in _ (by omega)]; omega
  have e2 : IntKind.i64.wrap ((at_ : Int) + (n : Int)) = ((at_ + n : Nat) : Int) := by rw [IntWalk.i64_in _ (by omega)]; omega
  have g1 : ¬ (((N - at_ : Nat) : Int) < (n : Int)) := by omega
  obtain ⟨hi, hhi⟩ : ∃ hi, hi = at_ + n := ⟨_, rfl⟩
  rw [← hhi] at e2
  have g2 : (at_ : Int) ≤ (hi : Int) := by omega
  have g3 : (hi : Int) ≤ (c : Int) := by omega
  have HH := Lib.hid (And.intro hb (And.intro hy (And.intro hn (And.intro hN (And.intro hhi (And.intro r2 r3))))))
  have HG := Lib.hid (show hi ≤ N by omega)
  have hc : ¬ c = at_ := by omega
  clear hb hy hn hN hhi r1 r2 r3 hle hn0
  go_enter Tryz.func119, Tryz.ntmps119
  go_wp2_with (go_at_call 156; (with_reducible refine HR.out.mono ?_); rintro e w1 ⟨rfl, rfl⟩)
  go_region_held3 (fun W => W.cell? ⟨ib, 0, none⟩ = some (.slice (some ⟨bb, off, none⟩) N c) ∧ W.cell? ⟨ib, 1, none⟩ = some (.int .i64 (at_ : Int))) (first | with_reducible assumption | exact ⟨c0, c1⟩) (first | fail)
  go_wp2
  go_region_held3 (fun W => W.cell? ⟨ib, 0, none⟩ = some (.slice (some ⟨bb, off, none⟩) N c) ∧ W.cell? ⟨ib, 1, none⟩ = some (.int .i64 (at_ : Int))) (first | with_reducible assumption | exact ⟨c0, c1⟩) (first | fail)
  go_wp2
  go_ret
  obtain ⟨hb, hy, hn, hN, hhi, r2, r3⟩ := HH.out
  have hk : Keeps (fun k => k = ib) w (w.setCell ⟨ib, 1, none⟩ (.int .i64 (hi : Int))).drew.drew := ((Keeps.setCell (S := fun k => k = ib) (Keeps.refl _ w) (p := ⟨ib, 1, none⟩) (fun _ => rfl) _).drew).drew
  have hd : hi - at_ = n := by omega
  have hhl : hi ≤ L.length := by rw [← hN]; exact HG.out
  have hy' := hy.keeps hk (far_at hn)
  have hb' : Blk (w.setCell ⟨ib, 1, none⟩ (.int .i64 (hi : Int))).drew.drew ib 158 [.slice (some ⟨bb, off, none⟩) N c, .int .i64 (hi : Int), .int .i64 0] := hb.set_ 1 _
  rw [hN] at hb'
  refine ⟨some ⟨bb, off + at_, none⟩, c - at_, by rw [← hd]; rfl, hk, ⟨off, c, by rw [← hhi]; exact hb', hy', hn, by omega, by omega, by omega⟩, ?_⟩
  intro i x hx
  rw [List.getElem?_take] at hx
  split at hx
  · rw [List.getElem?_drop] at hx
    obtain ⟨b', off', e, hc'⟩ := hy' _ _ hx
    injection e with e; injection e with e1 e2
    subst e1; subst e2
    exact ⟨bb, off + at_, rfl, by rw [Nat.add_assoc]; exact hc'⟩
  · cases hx
end Wi
end Go.Proofs.YtldlkepagmmohaaGreatDoor
