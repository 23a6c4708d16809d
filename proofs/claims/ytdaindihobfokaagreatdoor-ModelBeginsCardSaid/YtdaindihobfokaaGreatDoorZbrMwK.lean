/-
MwK: a lane step that was applied: the update; one that was not so.
-/
import Derived.Test.YtdaindihobfokaaGreatDoorZbqMwJ
namespace Go.Proofs.YtdaindihobfokaaGreatDoor
open Go.RowKit
set_option linter.unusedVariables false
set_option linter.unusedSimpArgs false
set_option linter.ambiguousOpen false
attribute [local go_sem] Oper.semAt_some Mb.run_store_float
namespace Mw
open Mem Dr
section
variable {mb kb fb tb lb ob xb sb kn : Nat} {reps logs plcs l0 : Value} {ks : Array MapEntry}
set_option maxHeartbeats 4000000 in
set_option maxRecDepth 100000 in
theorem apply_t (qb : Nat) (w : World) (h : MS w mb kb fb tb lb ob xb sb reps logs plcs (l0) (ks) (#[]) kn 0) (hq : Blk w qb 122 waitL) : Calls Tryz.prog 43 #[.pointer (some ⟨mb, 0, none⟩), .pointer (some ⟨qb, 0, none⟩)] w fun e w' => ∃ oo, e = .returned (.tuple #[]) ∧ Keeps (fun k => k = ob) w w' ∧ MS w' mb kb fb tb lb ob xb sb reps logs plcs (l0) (ks) (#[⟨.int .u32 3, .pointer (some ⟨oo, 0, none⟩), 0⟩]) kn 1 ∧ Blk w' oo 128 objL ∧ w.heap.size ≤ oo := by
  have k0 : Keeps (fun _ => False) w (w.alloc (.cells #[.int .u8 1, .int .u32 3, .int .u32 1, .int .u32 0, .int .i32 5, .int .i32 0, .int .u32 0, .int .u8 0, .slice none 0 0, .slice none 0 0, .int .i32 0, .string ⟨#[]⟩] 74)) := by (repeat (first | exact Keeps.refl _ _ | refine Keeps.drew ?_ | refine Keeps.alloc ?_ _))
  have HU := Lib.hid (update_t _ (h.kd k0))
  have cq := hq.cell
  have K0 := Lib.hid k0
  clear h hq k0
  go_enter Tryz.func43, Tryz.ntmps43
  go_wp2_with (go_at_call 64; (with_reducible refine HU.out.mono ?_); rintro e w1 ⟨oo, rfl, hk, hm, hb, hl⟩; have H1 := Lib.hid (And.intro hk (And.intro hm (And.intro hb hl))); clear hk hm hb hl)
  go_end0
  obtain ⟨hk, hm, hb, hl⟩ := H1.out
  have z : (w.alloc (.cells #[.int .u8 1, .int .u32 3, .int .u32 1, .int .u32 0, .int .i32 5, .int .i32 0, .int .u32 0, .int .u8 0, .slice none 0 0, .slice none 0 0, .int .i32 0, .string ⟨#[]⟩] 74)).heap.size = w.heap.size + 1 := World.size_alloc _ _
  exact ⟨oo, rfl, (K0.out.mono (T := fun k => k = ob) (fun _ _ h => h.elim)).then hk (fun i _ e => e), hm, hb, by omega⟩
set_option maxHeartbeats 4000000 in
set_option maxRecDepth 100000 in
theorem lane_t (g c qb : Nat) (w : World) (h : MS w mb kb fb tb lb ob xb sb reps logs plcs (.slice (some ⟨g, 0, none⟩) 1 c) (ks) (#[]) kn 0) (hg : w.cell? ⟨g, 0, none⟩ = some (.pointer (some ⟨qb, 0, none⟩))) (hq : Blk w qb 122 waitL) : Calls Tryz.prog 25 #[.pointer (some ⟨mb, 0, none⟩), .int .i64 0, .int .i64 0] w fun e w' => ∃ oo, e = .returned (.bool true) ∧ Keeps (fun k => k = lb ∨ k = ob) w w' ∧ (∃ l1, MS w' mb kb fb tb lb ob xb sb reps logs plcs (l1) (ks) (#[⟨.int .u32 3, .pointer (some ⟨oo, 0, none⟩), 0⟩]) kn 1) ∧ Blk w' oo 128 objL ∧ w.heap.size ≤ oo := by
  have HM := Lib.hid h
  have HQ := Lib.hid (And.intro hq (show lb ≠ qb from h.l.ne_ hq (by decide)))
  have cm := h.m.cell
  have cl := h.l.cell
  have cq := hq.cell
  have hw2 : IntKind.i64.wrap 2 = 2 := by kernel_rfl
  clear h hq
  go_enter Tryz.func25, Tryz.ntmps25
  go_wp2
  clear cq cm cl hg
  apply join_w (fun W => ∃ l1, Keeps (fun k => k = lb) w W ∧ MS W mb kb fb tb lb ob xb sb reps logs plcs (l1) (ks) (#[]) kn 0 ∧ Blk W qb 122 waitL)
  · refine wp_region_held_drew (S := fun W => (∀ i : Nat, W.cell? ⟨mb, i, none⟩ = (modL kb fb tb lb ob xb sb reps logs plcs : List Value)[i]?)) (by kernel_rfl) HM.out.m.drew.cell (fun hS0 => ?_)
    refine tK 0 hS0 ?_
    refine tK 1 hS0 ?_
    refine tK 2 hS0 ?_
    refine tK 3 hS0 ?_
    refine tK 4 hS0 ?_
    refine tK 5 hS0 ?_
    refine tK 6 hS0 ?_
    refine tK 7 hS0 ?_
    refine tK 8 hS0 ?_
    refine tK 9 hS0 ?_
    refine tK 10 hS0 ?_
    refine anyH_one 11 (by kernel_rfl) rfl (by rfl) (fun K hK => ?_)
    have cl := HM.out.l.drew.cell
    go_simp
    clear cl
    refine hK _ _ hS0 ?_
    clear hK K
    try simp only [y0, y1, y2, y3, y4, y5, y6]
    refine tK 12 hS0 ?_
    refine tK 13 hS0 ?_
    refine anyH_one 14 (by kernel_rfl) rfl (by rfl) (fun K hK => ?_)
    have cl := HM.out.l.drew.cell
    have fl := HM.out.l.drew.frozen
    go_simp
    clear cl fl
    refine hK _ _ ((HM.out.m.drew.far (p := ⟨lb, 0, none⟩) HM.out.ml _).cell) ?_
    clear hK K hS0
    try simp only [y0, y1, y2, y3, y4, y5, y6]
    refine wpAnyH_done (by kernel_rfl) ?_ _
    have kk := fun l1 => (((Keeps.refl (fun k => k = lb) w).drew).setCell (p := ⟨lb, 0, none⟩) (fun _ => rfl) l1)
    exact ⟨rfl, _, kk _, ⟨HM.out.m.keeps (kk _) HM.out.ml, HM.out.l.drew.set_ 0 _, HM.out.k.keeps (kk _) (Ne.symm HM.out.lk), HM.out.o.keeps (kk _) (Ne.symm HM.out.lo), HM.out.x.keeps (kk _) (Ne.symm HM.out.lx), HM.out.ko, HM.out.kx, HM.out.ox⟩, HQ.out.1.keeps (kk _) (Ne.symm HQ.out.2)⟩
  · rintro w1 ⟨l1, K1, HM1, HQ1⟩
    have HA := Lib.hid (apply_t qb _ HM1 HQ1)
    have HK1 := Lib.hid K1
    clear K1 HM1 HQ1
    go_wp2_with (go_at_call 43; (with_reducible refine HA.out.mono ?_); rintro e w2 ⟨oo, rfl, hk, hm, hb, hl⟩; have H2 := Lib.hid (And.intro hk (And.intro hm (And.intro hb hl))); clear hk hm hb hl)
    all_goals
      go_ret
      obtain ⟨hk, hm, hb, hl⟩ := H2.out
      have z := HK1.out.size
      exact ⟨rfl, (HK1.out.mono (T := fun k => k = lb ∨ k = ob) (fun _ _ e => .inl e)).then hk (fun i _ e => .inr e), oo, ⟨l1, hm⟩, hb, by omega⟩
set_option maxHeartbeats 4000000 in
set_option maxRecDepth 100000 in
theorem lane_no (g c qb : Nat) (w : World) (h : MS w mb kb fb tb lb ob xb sb reps logs plcs (.slice (some ⟨g, 0, none⟩) 1 c) (ks) (#[]) kn 0) (hg : w.cell? ⟨g, 0, none⟩ = some (.pointer (some ⟨qb, 0, none⟩))) (hq : Blk w qb 122 waitL) : Calls Tryz.prog 25 #[.pointer (some ⟨mb, 0, none⟩), .int .i64 0, .int .i64 1] w fun e w' => e = .returned (.bool false) ∧ Keeps (fun _ => False) w w' := by
  have cm := h.m.cell
  have cl := h.l.cell
  have cq := hq.cell
  have hw2 : IntKind.i64.wrap 2 = 2 := by kernel_rfl
  clear h hq
  go_enter Tryz.func25, Tryz.ntmps25
  go_wp2
  go_ret
  exact ⟨rfl, by (repeat (first | exact Keeps.refl _ _ | assumption | refine Keeps.alloc ?_ _ | refine Keeps.drew ?_))⟩
end
end Mw
end Go.Proofs.YtdaindihobfokaaGreatDoor
