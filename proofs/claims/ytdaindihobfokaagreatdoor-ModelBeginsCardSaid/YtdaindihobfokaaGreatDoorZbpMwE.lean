/-
MwE: an update is taken in.
-/
import Derived.Test.YtdaindihobfokaaGreatDoorZboMwD
namespace Go.Proofs.YtdaindihobfokaaGreatDoor
open Go.RowKit
set_option linter.unusedVariables false
set_option linter.unusedSimpArgs false
set_option linter.ambiguousOpen false
attribute [local go_sem] Oper.semAt_some
namespace Mw
open Mem Dr
theorem pin_t (w : World) : Calls Tryz.prog 54 #[.agg #[.int .i32 5, .int .i32 0]] w fun e w' => e = .returned (.bool true) ∧ Keeps (fun _ => False) w w' := by
  go_enter Tryz.func54, Tryz.ntmps54
  go_wp2
  go_ret
  exact ⟨rfl, by (repeat (first | exact Keeps.refl _ _ | assumption | refine Keeps.alloc ?_ _ | refine Keeps.drew ?_))⟩
theorem rem_1 (W : World) : (binOp .rem 26 (.int .u32 3) (.int .u32 1)).run Tryz.prog W = .ok (.int .u32 0) W := by kernel_rfl
section
variable {mb kb fb tb lb ob xb sb : Nat} {reps logs plcs : Value}
set_option maxHeartbeats 4000000 in
set_option maxRecDepth 20000 in
theorem moves_t (w : World) (h : MS w mb kb fb tb lb ob xb sb reps logs plcs (.slice none 0 0) (#[]) (#[]) 0 0) : Calls Tryz.prog 32 #[.pointer (some ⟨mb, 0, none⟩), .agg #[.int .u8 1, .int .u32 3, .int .u32 1, .int .u32 0, .int .i32 5, .int .i32 0, .int .u32 0, .int .u8 0, .slice none 0 0, .slice none 0 0, .int .i32 0, .string ⟨#[]⟩], .int .i64 0] w fun e w' => ∃ g qb, e = .returned (.agg (repL 0 0).toArray) ∧ Keeps (fun k => k = lb ∨ k = kb) w w' ∧ (∃ c, MS w' mb kb fb tb lb ob xb sb reps logs plcs (.slice (some ⟨g, 0, none⟩) 1 c) (#[⟨.int .u32 3, .int .u32 1, 0⟩]) (#[]) 1 0) ∧ w'.cell? ⟨g, 0, none⟩ = some (.pointer (some ⟨qb, 0, none⟩)) ∧ Blk w' qb 122 waitL ∧ w.heap.size ≤ g ∧ w.heap.size ≤ qb := by
  have HM := Lib.hid h
  have hw1 : IntKind.u32.wrap 1 = 1 := by kernel_rfl
  have hw2 : IntKind.u32.wrap 0 = 0 := by kernel_rfl
  have hw3 : IntKind.i64.wrap 0 = 0 := by kernel_rfl
  clear h
  go_enter Tryz.func32, Tryz.ntmps32
  go_wp2
  obtain ⟨B4, hB4⟩ : ∃ B, B = w.heap.size := ⟨_, rfl⟩
  obtain ⟨B6, hB6⟩ : ∃ B, B = w.heap.size + 1 := ⟨_, rfl⟩
  obtain ⟨w0, hw0⟩ : ∃ w0, w0 = (w.alloc (.cells #[.int .u8 1, .int .u32 3, .int .u32 1, .int .u32 0, .int .i32 5, .int .i32 0, .int .u32 0, .int .u8 0, .slice none 0 0, .slice none 0 0, .int .i32 0, .string ⟨#[]⟩] 74)).alloc (.cells (repL 0 0).toArray 95) := ⟨_, rfl⟩
  have K0 := Lib.hid (show Keeps (fun _ => False) w w0 from by rw [hw0]; (repeat (first | exact Keeps.refl _ _ | assumption | refine Keeps.alloc ?_ _ | refine Keeps.drew ?_)))
  have HB4 := Lib.hid (show Blk w0 B4 74 [.int .u8 1, .int .u32 3, .int .u32 1, .int .u32 0, .int .i32 5, .int .i32 0, .int .u32 0, .int .u8 0, .slice none 0 0, .slice none 0 0, .int .i32 0, .string ⟨#[]⟩] from by rw [hw0, hB4]; exact (Blk.new w _ _).alloc _)
  have HB6 := Lib.hid (show Blk w0 B6 95 (repL 0 0) from by rw [hw0, hB6]; have := Blk.new (w.alloc (.cells #[.int .u8 1, .int .u32 3, .int .u32 1, .int .u32 0, .int .i32 5, .int .i32 0, .int .u32 0, .int .u8 0, .slice none 0 0, .slice none 0 0, .int .i32 0, .string ⟨#[]⟩] 74)) 95 (repL 0 0); rwa [World.size_alloc] at this)
  have HQ := Lib.hid (show w.heap.size ≤ B4 ∧ w.heap.size ≤ B6 ∧ B4 ≠ B6 from ⟨by omega, by omega, by omega⟩)
  (try rw [← hw0])
  (try rw [← hB6])
  (try rw [← hB4])
  clear hw0 hB6 hB4
  have HM0 := Lib.hid (HM.out.kd K0.out)
  have HS := Lib.hid (show ∀ W', Keeps (fun _ => False) w0 W' → ((∀ i : Nat, W'.cell? ⟨mb, i, none⟩ = (modL kb fb tb lb ob xb sb reps logs plcs : List Value)[i]?) ∧ (∀ i : Nat, W'.cell? ⟨B4, i, none⟩ = ([.int .u8 1, .int .u32 3, .int .u32 1, .int .u32 0, .int .i32 5, .int .i32 0, .int .u32 0, .int .u8 0, .slice none 0 0, .slice none 0 0, .int .i32 0, .string ⟨#[]⟩] : List Value)[i]?) ∧ (Instr.lookup 82 (.map (some kb)) (.int .u32 3) true).run Tryz.prog W' = .ok (.tuple #[.int .u32 0, .bool false]) W') from fun W' k => ⟨(HM0.out.kd k).m.cell, (HB4.out.keeps k (fun h => h)).cell, lk_n (HM0.out.kd k).k⟩)
  go_region_held3 (fun W => ((∀ i : Nat, W.cell? ⟨mb, i, none⟩ = (modL kb fb tb lb ob xb sb reps logs plcs : List Value)[i]?) ∧ (∀ i : Nat, W.cell? ⟨B4, i, none⟩ = ([.int .u8 1, .int .u32 3, .int .u32 1, .int .u32 0, .int .i32 5, .int .i32 0, .int .u32 0, .int .u8 0, .slice none 0 0, .slice none 0 0, .int .i32 0, .string ⟨#[]⟩] : List Value)[i]?) ∧ (Instr.lookup 82 (.map (some kb)) (.int .u32 3) true).run Tryz.prog W = .ok (.tuple #[.int .u32 0, .bool false]) W)) (first | with_reducible assumption | exact HS.out _ (by (repeat (first | exact Keeps.refl _ _ | refine Keeps.drew ?_ | refine Keeps.alloc ?_ _ | with_reducible refine Keeps.trans ?_ K5.out | with_reducible refine Keeps.trans ?_ K4.out | with_reducible refine Keeps.trans ?_ K3.out | with_reducible refine Keeps.trans ?_ K2.out | with_reducible refine Keeps.trans ?_ K1.out)))) (first | fail)
  go_wp2
  go_region_held3 (fun W => ((∀ i : Nat, W.cell? ⟨mb, i, none⟩ = (modL kb fb tb lb ob xb sb reps logs plcs : List Value)[i]?) ∧ (∀ i : Nat, W.cell? ⟨B4, i, none⟩ = ([.int .u8 1, .int .u32 3, .int .u32 1, .int .u32 0, .int .i32 5, .int .i32 0, .int .u32 0, .int .u8 0, .slice none 0 0, .slice none 0 0, .int .i32 0, .string ⟨#[]⟩] : List Value)[i]?) ∧ (Instr.lookup 82 (.map (some kb)) (.int .u32 3) true).run Tryz.prog W = .ok (.tuple #[.int .u32 0, .bool false]) W)) (first | with_reducible assumption | exact HS.out _ (by (repeat (first | exact Keeps.refl _ _ | refine Keeps.drew ?_ | refine Keeps.alloc ?_ _ | with_reducible refine Keeps.trans ?_ K5.out | with_reducible refine Keeps.trans ?_ K4.out | with_reducible refine Keeps.trans ?_ K3.out | with_reducible refine Keeps.trans ?_ K2.out | with_reducible refine Keeps.trans ?_ K1.out)))) (first | fail)
  go_wp2_with (go_at_call 54; (with_reducible refine (pin_t _).mono ?_); rintro e w1 ⟨rfl, hk⟩; have K1 := Lib.hid (show Keeps (fun _ => False) w0 w1 from Keeps.trans (by (repeat (first | exact Keeps.refl _ _ | refine Keeps.drew ?_ | refine Keeps.alloc ?_ _ | with_reducible refine Keeps.trans ?_ K5.out | with_reducible refine Keeps.trans ?_ K4.out | with_reducible refine Keeps.trans ?_ K3.out | with_reducible refine Keeps.trans ?_ K2.out | with_reducible refine Keeps.trans ?_ K1.out))) hk); have hS1 := HS.out _ K1.out; clear hk)
  have HM1 := Lib.hid (HM0.out.kd K1.out)
  go_region_held3 (fun W => ((∀ i : Nat, W.cell? ⟨mb, i, none⟩ = (modL kb fb tb lb ob xb sb reps logs plcs : List Value)[i]?) ∧ (∀ i : Nat, W.cell? ⟨B4, i, none⟩ = ([.int .u8 1, .int .u32 3, .int .u32 1, .int .u32 0, .int .i32 5, .int .i32 0, .int .u32 0, .int .u8 0, .slice none 0 0, .slice none 0 0, .int .i32 0, .string ⟨#[]⟩] : List Value)[i]?) ∧ (Instr.lookup 82 (.map (some kb)) (.int .u32 3) true).run Tryz.prog W = .ok (.tuple #[.int .u32 0, .bool false]) W)) (first | with_reducible assumption | exact HS.out _ (by (repeat (first | exact Keeps.refl _ _ | refine Keeps.drew ?_ | refine Keeps.alloc ?_ _ | with_reducible refine Keeps.trans ?_ K5.out | with_reducible refine Keeps.trans ?_ K4.out | with_reducible refine Keeps.trans ?_ K3.out | with_reducible refine Keeps.trans ?_ K2.out | with_reducible refine Keeps.trans ?_ K1.out)))) (first
    | (go_at_call 57; (with_reducible refine (kept_t _ (HM0.out.kd (by (repeat (first | exact Keeps.refl _ _ | refine Keeps.drew ?_ | refine Keeps.alloc ?_ _ | with_reducible refine Keeps.trans ?_ K5.out | with_reducible refine Keeps.trans ?_ K4.out | with_reducible refine Keeps.trans ?_ K3.out | with_reducible refine Keeps.trans ?_ K2.out | with_reducible refine Keeps.trans ?_ K1.out))))).mono ?_); rintro e w2 ⟨r, rfl, hr, hk⟩; have K2 := Lib.hid (show Keeps (fun _ => False) w0 w2 from Keeps.trans (by (repeat (first | exact Keeps.refl _ _ | refine Keeps.drew ?_ | refine Keeps.alloc ?_ _ | with_reducible refine Keeps.trans ?_ K5.out | with_reducible refine Keeps.trans ?_ K4.out | with_reducible refine Keeps.trans ?_ K3.out | with_reducible refine Keeps.trans ?_ K2.out | with_reducible refine Keeps.trans ?_ K1.out))) hk); have HR := Lib.hid hr; clear hk hr)
    | (go_at_call 56; (with_reducible refine (room_t _ _ (HR.out.keeps (by (repeat (first | exact Keeps.refl _ _ | refine Keeps.drew ?_ | refine Keeps.alloc ?_ _ | with_reducible refine Keeps.trans ?_ K5.out | with_reducible refine Keeps.trans ?_ K4.out | with_reducible refine Keeps.trans ?_ K3.out | with_reducible refine Keeps.trans ?_ K2.out | with_reducible refine Keeps.trans ?_ K1.out)) : Keeps (fun _ => False) w2 _) (fun h => h))).mono ?_); rintro e w3 ⟨rfl, hk⟩; have K3 := Lib.hid (show Keeps (fun _ => False) w0 w3 from Keeps.trans (by (repeat (first | exact Keeps.refl _ _ | refine Keeps.drew ?_ | refine Keeps.alloc ?_ _ | with_reducible refine Keeps.trans ?_ K5.out | with_reducible refine Keeps.trans ?_ K4.out | with_reducible refine Keeps.trans ?_ K3.out | with_reducible refine Keeps.trans ?_ K2.out | with_reducible refine Keeps.trans ?_ K1.out))) hk); clear hk))
  go_wp2_with (go_at_call 58; (with_reducible refine (full_t _ (HM0.out.kd (by (repeat (first | exact Keeps.refl _ _ | refine Keeps.drew ?_ | refine Keeps.alloc ?_ _ | with_reducible refine Keeps.trans ?_ K5.out | with_reducible refine Keeps.trans ?_ K4.out | with_reducible refine Keeps.trans ?_ K3.out | with_reducible refine Keeps.trans ?_ K2.out | with_reducible refine Keeps.trans ?_ K1.out))))).mono ?_); rintro e w4 ⟨rfl, hk⟩; have K4 := Lib.hid (show Keeps (fun _ => False) w0 w4 from Keeps.trans (by (repeat (first | exact Keeps.refl _ _ | refine Keeps.drew ?_ | refine Keeps.alloc ?_ _ | with_reducible refine Keeps.trans ?_ K5.out | with_reducible refine Keeps.trans ?_ K4.out | with_reducible refine Keeps.trans ?_ K3.out | with_reducible refine Keeps.trans ?_ K2.out | with_reducible refine Keeps.trans ?_ K1.out))) hk); have hup := up_n (W := w4.drew) (HM0.out.kd K4.out).k.drew (.int .u32 1); have HU := Lib.hid (And.intro (setM_keeps w4.drew kb #[⟨.int .u32 3, .int .u32 1, 0⟩] 1) (setM_mp (w := w4.drew) (HM0.out.kd K4.out).k.drew #[⟨.int .u32 3, .int .u32 1, 0⟩] 1)); obtain ⟨w5, hw5⟩ : ∃ w5, w5 = setM w4.drew kb #[⟨.int .u32 3, .int .u32 1, 0⟩] 1 := ⟨_, rfl⟩; rw [← hw5] at hup HU; clear hk hw5)
  have HM4 := Lib.hid (HM0.out.kd K4.out)
  have k5 : Keeps (fun k => k = kb) w4 w5 := ⟨HU.out.1.os, HU.out.1.tape, HU.out.1.output, HU.out.1.size, HU.out.1.block⟩
  have hb4 := (HB4.out.keeps K4.out (fun h => h))
  have HM5 := Lib.hid (show MS w5 mb kb fb tb lb ob xb sb reps logs plcs (.slice none 0 0) (#[⟨.int .u32 3, .int .u32 1, 0⟩]) (#[]) 1 0 from ⟨HM4.out.m.keeps k5 HM4.out.mkb, HM4.out.l.keeps k5 HM4.out.lk, HU.out.2, HM4.out.o.keeps k5 (Ne.symm HM4.out.ko), HM4.out.x.keeps k5 (Ne.symm HM4.out.kx), HM4.out.ko, HM4.out.kx, HM4.out.ox⟩)
  have HB45 := Lib.hid (And.intro hb4 (hb4.keeps k5 (HM4.out.k.ne hb4)))
  have HB65 := Lib.hid ((HB6.out.keeps K4.out (fun h => h)).keeps k5 (HM4.out.k.ne (HB6.out.keeps K4.out (fun h => h))))
  have K5w := Lib.hid (((K0.out.trans K4.out).mono (T := fun k => k = lb ∨ k = kb) (fun _ _ h => h.elim)).then k5 (fun i _ e => .inr e))
  clear k5 hb4
  have hS4 : ((∀ i : Nat, w4.drew.cell? ⟨mb, i, none⟩ = (modL kb fb tb lb ob xb sb reps logs plcs : List Value)[i]?) ∧ (∀ i : Nat, w4.drew.cell? ⟨B4, i, none⟩ = ([.int .u8 1, .int .u32 3, .int .u32 1, .int .u32 0, .int .i32 5, .int .i32 0, .int .u32 0, .int .u8 0, .slice none 0 0, .slice none 0 0, .int .i32 0, .string ⟨#[]⟩] : List Value)[i]?)) := ⟨HM4.out.m.drew.cell, HB45.out.1.drew.cell⟩
  have hS5 : ((∀ i : Nat, w5.cell? ⟨mb, i, none⟩ = (modL kb fb tb lb ob xb sb reps logs plcs : List Value)[i]?) ∧ (∀ i : Nat, w5.cell? ⟨B4, i, none⟩ = ([.int .u8 1, .int .u32 3, .int .u32 1, .int .u32 0, .int .i32 5, .int .i32 0, .int .u32 0, .int .u8 0, .slice none 0 0, .slice none 0 0, .int .i32 0, .string ⟨#[]⟩] : List Value)[i]?)) := ⟨HM5.out.m.cell, HB45.out.2.cell⟩
  go_region_held3 (fun W => ((∀ i : Nat, W.cell? ⟨mb, i, none⟩ = (modL kb fb tb lb ob xb sb reps logs plcs : List Value)[i]?) ∧ (∀ i : Nat, W.cell? ⟨B4, i, none⟩ = ([.int .u8 1, .int .u32 3, .int .u32 1, .int .u32 0, .int .i32 5, .int .i32 0, .int .u32 0, .int .u8 0, .slice none 0 0, .slice none 0 0, .int .i32 0, .string ⟨#[]⟩] : List Value)[i]?))) (first | with_reducible assumption) (first | fail)
  go_wp2_with (first
    | (go_at_call 59; (with_reducible refine (wait_t w5.heap.size _ (HM5.out.kd (show Keeps (fun _ => False) w5 (w5.alloc (.cells waitL.toArray 122)) from by (repeat (first | exact Keeps.refl _ _ | refine Keeps.drew ?_ | refine Keeps.alloc ?_ _ | with_reducible refine Keeps.trans ?_ K5.out | with_reducible refine Keeps.trans ?_ K4.out | with_reducible refine Keeps.trans ?_ K3.out | with_reducible refine Keeps.trans ?_ K2.out | with_reducible refine Keeps.trans ?_ K1.out))))).mono ?_); rintro e w7 ⟨g, c, rfl, hk7, hm7, hc7, hg7⟩; have H7 := Lib.hid (And.intro hk7 (And.intro hm7 (And.intro hc7 hg7))); have Z7 := Lib.hid ((HB65.out.alloc (.cells waitL.toArray 122)).keeps hk7 (fun e => by have := HM.out.l.lt; have := HQ.out; omega)); clear hk7 hm7 hc7 hg7)
    | (with_reducible refine wpList_store_blk rfl 95 (.tmp 6) (.tmp 82) rfl _ 0 95 (repL 0 0) (repL 0 0).toArray rfl rfl Z7.out (by simp) (rep_info 0 0) (by simp [Value.oneCell']) ?_; intro w8 hb8 hg8 hs8; have H8 := Lib.hid (And.intro hb8 hg8); clear hb8 hg8 hs8))
  have q := HQ.out
  have hb7 := (Blk.new w5 122 waitL).keeps H7.out.1 (fun e => by have := HM5.out.l.lt; omega)
  have kw7 : Keeps (fun k => k = lb ∨ k = kb) w w7 := (K5w.out.alloc (.cells waitL.toArray 122)).then H7.out.1 (fun i _ e => .inl e)
  have z5 := K5w.out.size
  have z6 : (w5.alloc (.cells waitL.toArray 122)).heap.size = w5.heap.size + 1 := World.size_alloc _ _
  have hg := H7.out.2.2.2
  have hbl := HB65.out.lt
  have kw8 : Keeps (fun k => k = lb ∨ k = kb) w w8 := kw7.grown H8.out.2 (fun k hk e => by cases e; omega)
  have k78 : Keeps (fun k => k = B6) w7 w8 := (Keeps.refl _ _).grown H8.out.2 (fun k hk e => by cases e; rfl)
  have a1 := HM.out.m.lt
  have a2 := HM.out.l.lt
  have a3 := HM.out.k.lt
  have a4 := HM.out.o.lt
  have a5 := HM.out.x.lt
  have m := H7.out.2.1
  refine bodyPost_ret (results_cell_row rfl _ _ _ _ _ _ _ rfl (by exact H8.out.1) Tryz.underlying95 rfl (rep_info 0 0)) rfl ?_
  exact ⟨rfl, kw8, g, ⟨c, m.m.keeps k78 (by omega), m.l.keeps k78 (by omega), m.k.keeps k78 (by omega), m.o.keeps k78 (by omega), m.x.keeps k78 (by omega), m.ko, m.kx, m.ox⟩, w5.heap.size, k78.cell H7.out.2.2.1 (by simp only; omega), hb7.keeps k78 (by omega), by omega, z5⟩
end
end Mw
end Go.Proofs.YtdaindihobfokaaGreatDoor
