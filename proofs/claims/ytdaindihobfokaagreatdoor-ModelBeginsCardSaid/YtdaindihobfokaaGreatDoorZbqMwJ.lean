/-
MwJ: an update is applied: an object that was not there, no fences.
-/
import Derived.Test.YtdaindihobfokaaGreatDoorZbmMwGMwHMwI
import Derived.Test.YtdaindihobfokaaGreatDoorZbpMwE
import Derived.Test.YtdaindihobfokaaGreatDoorZacMbB
namespace Go.Proofs.YtdaindihobfokaaGreatDoor
open Go.RowKit
set_option linter.unusedVariables false
set_option linter.unusedSimpArgs false
set_option linter.ambiguousOpen false
attribute [local go_sem] Oper.semAt_some Mb.run_store_float
namespace Mw
open Mem Dr
theorem run_store_func {P : Program} {w : World} {a : Addr} {m : Mode} (f : Fn) (x y : Array Value) : (store a (.func f x y) m).run P w = stored P w a (.func f x y) m := run_store P w a _ m rfl
attribute [local go_sem] run_store_func
abbrev objL : List Value := [.int .i32 5, .int .i32 0, .int .u32 1, .int .u32 0, .float .f64 0]
abbrev obj0 : List Value := [.int .i32 0, .int .i32 0, .int .u32 0, .int .u32 0, .float .f64 0]
section
variable {mb kb fb tb lb ob xb sb kn : Nat} {reps logs plcs l0 : Value} {ks : Array MapEntry}
set_option maxHeartbeats 4000000 in
set_option maxRecDepth 100000 in
theorem update_t (w : World) (h : MS w mb kb fb tb lb ob xb sb reps logs plcs (l0) (ks) (#[]) kn 0) : Calls Tryz.prog 64 #[.pointer (some ⟨mb, 0, none⟩), .agg #[.int .u8 1, .int .u32 3, .int .u32 1, .int .u32 0, .int .i32 5, .int .i32 0, .int .u32 0, .int .u8 0, .slice none 0 0, .slice none 0 0, .int .i32 0, .string ⟨#[]⟩]] w fun e w' => ∃ oo, e = .returned (.tuple #[]) ∧ Keeps (fun k => k = ob) w w' ∧ MS w' mb kb fb tb lb ob xb sb reps logs plcs (l0) (ks) (#[⟨.int .u32 3, .pointer (some ⟨oo, 0, none⟩), 0⟩]) kn 1 ∧ Blk w' oo 128 objL ∧ w.heap.size ≤ oo := by
  have HM := Lib.hid h
  clear h
  go_enter Tryz.func64, Tryz.ntmps64
  go_wp2
  obtain ⟨B3, hB3⟩ : ∃ B, B = w.heap.size := ⟨_, rfl⟩
  obtain ⟨B4, hB4⟩ : ∃ B, B = w.heap.size + 1 := ⟨_, rfl⟩
  obtain ⟨w0, hw0⟩ : ∃ w0, w0 = (w.alloc (.cells #[.int .u8 1, .int .u32 3, .int .u32 1, .int .u32 0, .int .i32 5, .int .i32 0, .int .u32 0, .int .u8 0, .slice none 0 0, .slice none 0 0, .int .i32 0, .string ⟨#[]⟩] 74)).alloc (.cells #[.int .i32 5, .int .i32 0] 30) := ⟨_, rfl⟩
  have K0 := Lib.hid (show Keeps (fun _ => False) w w0 from by rw [hw0]; (repeat (first | exact Keeps.refl _ _ | assumption | refine Keeps.alloc ?_ _ | refine Keeps.drew ?_)))
  have HB3 := Lib.hid (show Blk w0 B3 74 [.int .u8 1, .int .u32 3, .int .u32 1, .int .u32 0, .int .i32 5, .int .i32 0, .int .u32 0, .int .u8 0, .slice none 0 0, .slice none 0 0, .int .i32 0, .string ⟨#[]⟩] from by rw [hw0, hB3]; exact (Blk.new w _ _).alloc _)
  have HB4 := Lib.hid (show Blk w0 B4 30 [.int .i32 5, .int .i32 0] from by rw [hw0, hB4]; have := Blk.new (w.alloc (.cells #[.int .u8 1, .int .u32 3, .int .u32 1, .int .u32 0, .int .i32 5, .int .i32 0, .int .u32 0, .int .u8 0, .slice none 0 0, .slice none 0 0, .int .i32 0, .string ⟨#[]⟩] 74)) 30 [.int .i32 5, .int .i32 0]; rwa [World.size_alloc] at this)
  (try rw [← hw0])
  (try rw [← hB4])
  (try rw [← hB3])
  clear hw0 hB4 hB3
  have HM0 := Lib.hid (HM.out.kd K0.out)
  have HS := Lib.hid (show ∀ W', Keeps (fun _ => False) w0 W' → ((∀ i : Nat, W'.cell? ⟨mb, i, none⟩ = (modL kb fb tb lb ob xb sb reps logs plcs : List Value)[i]?) ∧ (∀ i : Nat, W'.cell? ⟨B3, i, none⟩ = ([.int .u8 1, .int .u32 3, .int .u32 1, .int .u32 0, .int .i32 5, .int .i32 0, .int .u32 0, .int .u8 0, .slice none 0 0, .slice none 0 0, .int .i32 0, .string ⟨#[]⟩] : List Value)[i]?) ∧ (Instr.lookup 85 (.map (some ob)) (.int .u32 3) true).run Tryz.prog W' = .ok (.tuple #[.pointer none, .bool false]) W') from fun W' k => ⟨(HM0.out.kd k).m.cell, (HB3.out.keeps k (fun h => h)).cell, lk_o (HM0.out.kd k).o⟩)
  go_region_held3 (fun W => ((∀ i : Nat, W.cell? ⟨mb, i, none⟩ = (modL kb fb tb lb ob xb sb reps logs plcs : List Value)[i]?) ∧ (∀ i : Nat, W.cell? ⟨B3, i, none⟩ = ([.int .u8 1, .int .u32 3, .int .u32 1, .int .u32 0, .int .i32 5, .int .i32 0, .int .u32 0, .int .u8 0, .slice none 0 0, .slice none 0 0, .int .i32 0, .string ⟨#[]⟩] : List Value)[i]?) ∧ (Instr.lookup 85 (.map (some ob)) (.int .u32 3) true).run Tryz.prog W = .ok (.tuple #[.pointer none, .bool false]) W)) (first | with_reducible assumption | exact HS.out _ (by (repeat (first | exact Keeps.refl _ _ | refine Keeps.drew ?_ | refine Keeps.alloc ?_ _)))) (first | fail)
  have hmm := @run_makeMap Tryz.prog
  have K1 := Lib.hid (show Keeps (fun _ => False) w0 (((w0.alloc (.map #[] 0)).alloc (.map #[] 0)).drew) from by (repeat (first | exact Keeps.refl _ _ | refine Keeps.drew ?_ | refine Keeps.alloc ?_ _)))
  have HM1 := Lib.hid (HM0.out.kd K1.out)
  have hrg := run_range_map (P := Tryz.prog) (((w0.alloc (.map #[] 0)).alloc (.map #[] 0)).drew) 86 _ _ xb #[] 0 Tryz.underlying86 HM1.out.x
  have hz : ((((w0.alloc (.map #[] 0)).alloc (.map #[] 0)).drew)).heap.size = w0.heap.size + 1 + 1 := by simp
  have hi : (((((w0.alloc (.map #[] 0)).alloc (.map #[] 0)).drew)).alloc (.mapIter (some xb) 0 #[] 0)).heap[w0.heap.size + 1 + 1]? = some (.mapIter (some xb) 0 #[] 0) := by rw [← hz]; exact heap_alloc_new (((w0.alloc (.map #[] 0)).alloc (.map #[] 0)).drew) _
  rw [hz] at hrg
  have hnx : ∀ ty, (Instr.next (.pointer (some ⟨w0.heap.size + 1 + 1, 0, none⟩)) false ty).run Tryz.prog ((((w0.alloc (.map #[] 0)).alloc (.map #[] 0)).alloc (.mapIter (some xb) 0 #[] 0)).drew) = .ok (.tuple #[.bool false]) ((((w0.alloc (.map #[] 0)).alloc (.map #[] 0)).alloc (.mapIter (some xb) 0 #[] 0)).drew) := it_none hi (HM1.out.x.alloc _)
  have cm := HM1.out.m.cell
  clear hi hz
  go_wp2
  refine wp_loop_rounds 1 ?_
  rw [rounds_succ]
  go_wp2
  obtain ⟨oo, hoo⟩ : ∃ oo, oo = w0.heap.size + 1 + 1 + 1 := ⟨_, rfl⟩
  obtain ⟨w3, hw3⟩ : ∃ w3, w3 = ((((((w0.alloc (.map #[] 0)).alloc (.map #[] 0)).alloc (.mapIter (some xb) 0 #[] 0)).alloc (.cells #[.int .i32 0, .int .i32 0, .int .u32 0, .int .u32 0, .float .f64 0] 128))).drew) := ⟨_, rfl⟩
  have K3 := Lib.hid (show Keeps (fun _ => False) w0 w3 from by rw [hw3]; (repeat (first | exact Keeps.refl _ _ | refine Keeps.drew ?_ | refine Keeps.alloc ?_ _)))
  have HO := Lib.hid (show Blk w3 oo 128 obj0 from by
    rw [hw3, hoo]
    have := Blk.new (((w0.alloc (.map #[] 0)).alloc (.map #[] 0)).alloc (.mapIter (some xb) 0 #[] 0)) 128 obj0
    simp only [World.size_alloc] at this
    exact this)
  have HQ := Lib.hid (show w0.heap.size ≤ oo by omega)
  (try rw [← hw3])
  (try rw [← hoo])
  clear hw3 hoo hrg hnx cm hmm
  have HM3 := Lib.hid (HM0.out.kd K3.out)
  have hup := up_o (W := w3.drew) HM3.out.o.drew (.pointer (some ⟨oo, 0, none⟩))
  have HU := Lib.hid (And.intro (setM_keeps w3.drew ob #[⟨.int .u32 3, .pointer (some ⟨oo, 0, none⟩), 0⟩] 1) (setM_mp (w := w3.drew) HM3.out.o.drew #[⟨.int .u32 3, .pointer (some ⟨oo, 0, none⟩), 0⟩] 1))
  obtain ⟨w5, hw5⟩ : ∃ w5, w5 = setM w3.drew ob #[⟨.int .u32 3, .pointer (some ⟨oo, 0, none⟩), 0⟩] 1 := ⟨_, rfl⟩
  rw [← hw5] at hup HU
  clear hw5
  have k5 : Keeps (fun k => k = ob) w3 w5 := ⟨HU.out.1.os, HU.out.1.tape, HU.out.1.output, HU.out.1.size, HU.out.1.block⟩
  have hb3 := (HB3.out.keeps K3.out (fun h => h))
  have hb4 := (HB4.out.keeps K3.out (fun h => h))
  have HM5 := Lib.hid (show MS w5 mb kb fb tb lb ob xb sb reps logs plcs (l0) (ks) (#[⟨.int .u32 3, .pointer (some ⟨oo, 0, none⟩), 0⟩]) kn 1 from ⟨HM3.out.m.keeps k5 HM3.out.mo, HM3.out.l.keeps k5 HM3.out.lo, HM3.out.k.keeps k5 HM3.out.ko, HU.out.2, HM3.out.x.keeps k5 (Ne.symm HM3.out.ox), HM3.out.ko, HM3.out.kx, HM3.out.ox⟩)
  have HB35 := Lib.hid (And.intro hb3 (hb3.keeps k5 (HM3.out.o.ne hb3)))
  have HB45 := Lib.hid (hb4.keeps k5 (HM3.out.o.ne hb4))
  have HO5 := Lib.hid (HO.out.keeps k5 (HM3.out.o.ne HO.out))
  have K5 := Lib.hid (((K0.out.trans K3.out).mono (T := fun k => k = ob) (fun _ _ h => h.elim)).then k5 (fun i _ e => e))
  clear k5 hb3 hb4
  have hS4 : ((∀ i : Nat, w3.drew.cell? ⟨mb, i, none⟩ = (modL kb fb tb lb ob xb sb reps logs plcs : List Value)[i]?) ∧ (∀ i : Nat, w3.drew.cell? ⟨B3, i, none⟩ = ([.int .u8 1, .int .u32 3, .int .u32 1, .int .u32 0, .int .i32 5, .int .i32 0, .int .u32 0, .int .u8 0, .slice none 0 0, .slice none 0 0, .int .i32 0, .string ⟨#[]⟩] : List Value)[i]?)) := ⟨HM3.out.m.drew.cell, HB35.out.1.drew.cell⟩
  have hS5 : ((∀ i : Nat, w5.cell? ⟨mb, i, none⟩ = (modL kb fb tb lb ob xb sb reps logs plcs : List Value)[i]?) ∧ (∀ i : Nat, w5.cell? ⟨B3, i, none⟩ = ([.int .u8 1, .int .u32 3, .int .u32 1, .int .u32 0, .int .i32 5, .int .i32 0, .int .u32 0, .int .u8 0, .slice none 0 0, .slice none 0 0, .int .i32 0, .string ⟨#[]⟩] : List Value)[i]?)) := ⟨HM5.out.m.cell, HB35.out.2.cell⟩
  go_region_held3 (fun W => ((∀ i : Nat, W.cell? ⟨mb, i, none⟩ = (modL kb fb tb lb ob xb sb reps logs plcs : List Value)[i]?) ∧ (∀ i : Nat, W.cell? ⟨B3, i, none⟩ = ([.int .u8 1, .int .u32 3, .int .u32 1, .int .u32 0, .int .i32 5, .int .i32 0, .int .u32 0, .int .u8 0, .slice none 0 0, .slice none 0 0, .int .i32 0, .string ⟨#[]⟩] : List Value)[i]?))) (first | with_reducible assumption) (first | fail)
  clear hup
  have HN := Lib.hid (And.intro (HO5.out.ne_ HB35.out.2 (by decide) : oo ≠ B3) (HO5.out.ne_ HB45.out (by decide) : oo ≠ B4))
  have HF := Lib.hid (show ∀ W k v, ((∀ i : Nat, W.cell? ⟨B3, i, none⟩ = ([.int .u8 1, .int .u32 3, .int .u32 1, .int .u32 0, .int .i32 5, .int .i32 0, .int .u32 0, .int .u8 0, .slice none 0 0, .slice none 0 0, .int .i32 0, .string ⟨#[]⟩] : List Value)[i]?) ∧ (∀ i : Nat, W.cell? ⟨B4, i, none⟩ = ([.int .i32 5, .int .i32 0] : List Value)[i]?)) → ((∀ i : Nat, (W.setCell ⟨oo, k, none⟩ v).cell? ⟨B3, i, none⟩ = ([.int .u8 1, .int .u32 3, .int .u32 1, .int .u32 0, .int .i32 5, .int .i32 0, .int .u32 0, .int .u8 0, .slice none 0 0, .slice none 0 0, .int .i32 0, .string ⟨#[]⟩] : List Value)[i]?) ∧ (∀ i : Nat, (W.setCell ⟨oo, k, none⟩ v).cell? ⟨B4, i, none⟩ = ([.int .i32 5, .int .i32 0] : List Value)[i]?)) from fun W k v h => ⟨fun i => (World.cell?_setCell_far W ⟨oo, k, none⟩ ⟨B3, i, none⟩ v (HO5.out.ne_ HB35.out.2 (by decide))).trans (h.1 i), fun i => (World.cell?_setCell_far W ⟨oo, k, none⟩ ⟨B4, i, none⟩ v (HO5.out.ne_ HB45.out (by decide))).trans (h.2 i)⟩)
  have hS6 : ((∀ i : Nat, w5.drew.cell? ⟨B3, i, none⟩ = ([.int .u8 1, .int .u32 3, .int .u32 1, .int .u32 0, .int .i32 5, .int .i32 0, .int .u32 0, .int .u8 0, .slice none 0 0, .slice none 0 0, .int .i32 0, .string ⟨#[]⟩] : List Value)[i]?) ∧ (∀ i : Nat, w5.drew.cell? ⟨B4, i, none⟩ = ([.int .i32 5, .int .i32 0] : List Value)[i]?)) := ⟨HB35.out.2.drew.cell, HB45.out.drew.cell⟩
  go_wp2
  apply join_w (fun W => Keeps (fun k => k = oo) w5 W ∧ Blk W oo 128 objL)
  · refine wp_region_held_drew (S := fun W => ((∀ i : Nat, W.cell? ⟨B3, i, none⟩ = ([.int .u8 1, .int .u32 3, .int .u32 1, .int .u32 0, .int .i32 5, .int .i32 0, .int .u32 0, .int .u8 0, .slice none 0 0, .slice none 0 0, .int .i32 0, .string ⟨#[]⟩] : List Value)[i]?) ∧ (∀ i : Nat, W.cell? ⟨B4, i, none⟩ = ([.int .i32 5, .int .i32 0] : List Value)[i]?))) (by kernel_rfl) hS6 (fun hS0 => ?_)
    refine tK 0 hS0 ?_
    refine tK 1 hS0 ?_
    refine tK 2 hS0 ?_
    refine tK 3 hS0 ?_
    refine tK 4 hS0 ?_
    refine tK 5 hS0 ?_
    refine tK 6 hS0 ?_
    refine tK 7 hS0 ?_
    refine tK 8 hS0 ?_
    refine tK 9 hS0 ?_
    refine anyH_one 10 (by kernel_rfl) rfl (by rfl) (fun K hK => ?_)
    refine wp_store_blk 30 (.tmp 116) (.tmp 110) rfl oo 0 128 obj0 #[.int .i32 5, .int .i32 0] rfl rfl HO5.out.drew (by simp) (by kernel_rfl) (by simp [Value.oneCell']) ?_
    intro w6 hb6 hg6 hs6
    have hb6' : Blk w6 oo 128 [.int .i32 5, .int .i32 0, .int .u32 0, .int .u32 0, .float .f64 0] := hb6
    have hS7 : ((∀ i : Nat, w6.cell? ⟨B3, i, none⟩ = ([.int .u8 1, .int .u32 3, .int .u32 1, .int .u32 0, .int .i32 5, .int .i32 0, .int .u32 0, .int .u8 0, .slice none 0 0, .slice none 0 0, .int .i32 0, .string ⟨#[]⟩] : List Value)[i]?) ∧ (∀ i : Nat, w6.cell? ⟨B4, i, none⟩ = ([.int .i32 5, .int .i32 0] : List Value)[i]?)) := ⟨(HB35.out.2.drew.grown hg6 (fun e => HN.out.1 (Option.some.inj e).symm)).cell, (HB45.out.drew.grown hg6 (fun e => HN.out.2 (Option.some.inj e).symm)).cell⟩
    have H6 := Lib.hid (And.intro hb6' hg6)
    refine hK _ _ hS7 ?_
    clear hK K hS0 hb6 hb6' hg6 hs6
    try simp only [y0, y1, y2, y3, y4, y5, y6]
    refine tK 11 hS7 ?_
    refine tK 12 hS7 ?_
    refine anyH_one 13 (by kernel_rfl) rfl (by rfl) (fun K hK => ?_)
    have c2 := H6.out.1.cell 2
    have f2 := H6.out.1.frozen 2
    go_simp
    have hS8 := HF.out w6 2 (.int .u32 1) hS7
    refine hK _ _ hS8 ?_
    clear hK K c2 f2
    try simp only [y0, y1, y2, y3, y4, y5, y6]
    refine tK 14 hS8 ?_
    refine tK 15 hS8 ?_
    refine anyH_one 16 (by kernel_rfl) rfl (by rfl) (fun K hK => ?_)
    have c2 := (H6.out.1.set_ 2 (.int .u32 1)).cell 3
    have f2 := (H6.out.1.set_ 2 (.int .u32 1)).frozen 3
    go_simp
    refine hK _ _ (HF.out _ _ _ (HF.out _ _ _ hS7)) ?_
    clear hK K c2 f2
    try simp only [y0, y1, y2, y3, y4, y5, y6]
    refine wpAnyH_done (by kernel_rfl) ?_ _
    refine And.intro rfl ?_
    refine ⟨?_, ((H6.out.1.set_ 2 (.int .u32 1)).set_ 3 (.int .u32 0))⟩
    exact (((Keeps.refl (fun k => k = oo) w5).drew.grown H6.out.2 (fun k hk e => by cases e; rfl)).setCell (fun _ => rfl) _).setCell (fun _ => rfl) _
  · intro w6 h6
    have H6 := Lib.hid h6
    clear h6 hS4 hS5 hS6
    have q := HQ.out
    have a1 := HM0.out.m.lt
    have a2 := HM0.out.l.lt
    have a3 := HM0.out.k.lt
    have a4 := HM0.out.o.lt
    have a5 := HM0.out.x.lt
    have HM6 := Lib.hid (show MS w6 mb kb fb tb lb ob xb sb reps logs plcs (l0) (ks) (#[⟨.int .u32 3, .pointer (some ⟨oo, 0, none⟩), 0⟩]) kn 1 from ⟨HM5.out.m.keeps H6.out.1 (by omega), HM5.out.l.keeps H6.out.1 (by omega), HM5.out.k.keeps H6.out.1 (by omega), HM5.out.o.keeps H6.out.1 (by omega), HM5.out.x.keeps H6.out.1 (by omega), HM5.out.ko, HM5.out.kx, HM5.out.ox⟩)
    clear q a1 a2 a3 a4 a5
    go_wp2
    obtain ⟨B8, hB8⟩ : ∃ B, B = w6.heap.size := ⟨_, rfl⟩
    obtain ⟨w7, hw7⟩ : ∃ w7, w7 = w6.alloc (.cells ([.int .u8 2, .func (.func 90) #[] #[], .int .u8 3, .func (.func 91) #[] #[], .int .u8 1, .func (.func 92) #[] #[]] : List Value).toArray 209) := ⟨_, rfl⟩
    have HB8 := Lib.hid (show Blk w7 B8 209 [.int .u8 2, .func (.func 90) #[] #[], .int .u8 3, .func (.func 91) #[] #[], .int .u8 1, .func (.func 92) #[] #[]] from by rw [hw7, hB8]; exact Blk.new w6 _ _)
    have K7 := Lib.hid (show Keeps (fun _ => False) w6 w7 from by rw [hw7]; (repeat (first | exact Keeps.refl _ _ | refine Keeps.drew ?_ | refine Keeps.alloc ?_ _)))
    (try rw [← hw7])
    (try rw [← hB8])
    clear hw7 hB8
    have HM7 := Lib.hid (HM6.out.kd K7.out)
    have c8 := HB8.out.cell
    have cm := fun o i => (HM7.out.kd ((Keeps.refl (fun _ => False) w7).alloc o)).m.cell i
    refine wp_loop_rounds 4 ?_
    rw [rounds_succ]
    go_wp2_with (go_at_call 45; (with_reducible refine (risef_t xb _ (HM7.out.kd (by (repeat (first | exact Keeps.refl _ _ | refine Keeps.drew ?_ | refine Keeps.alloc ?_ _)))).x).mono ?_); rintro e w8 ⟨a8, e8, rfl, hk⟩; have K8 := Lib.hid (Keeps.trans (show Keeps (fun _ => False) w7 _ from by (repeat (first | exact Keeps.refl _ _ | refine Keeps.drew ?_ | refine Keeps.alloc ?_ _))) hk); have cc8 := (HB8.out.keeps K8.out (fun h => h)).cell; have HM8 := Lib.hid (HM7.out.kd K8.out); have cm8 := fun o i => (HM8.out.kd ((Keeps.refl (fun _ => False) w8).alloc o)).m.cell i; clear hk c8 cm)
    refine wp_loop_rounds 1 ?_
    rw [rounds_succ]
    go_wp2
    rw [rounds_succ]
    go_wp2_with (go_at_call 45; (with_reducible refine (risef_t xb _ (HM8.out.kd (by (repeat (first | exact Keeps.refl _ _ | refine Keeps.drew ?_ | refine Keeps.alloc ?_ _)))).x).mono ?_); rintro e w9 ⟨a9, e9, rfl, hk⟩; have K9 := Lib.hid (K8.out.trans (Keeps.trans (show Keeps (fun _ => False) w8 _ from by (repeat (first | exact Keeps.refl _ _ | refine Keeps.drew ?_ | refine Keeps.alloc ?_ _))) hk)); have cc9 := (HB8.out.keeps K9.out (fun h => h)).cell; have HM9 := Lib.hid (HM7.out.kd K9.out); have cm9 := fun o i => (HM9.out.kd ((Keeps.refl (fun _ => False) w9).alloc o)).m.cell i; clear hk cc8 cm8)
    refine wp_loop_rounds 1 ?_
    rw [rounds_succ]
    go_wp2
    rw [rounds_succ]
    go_wp2_with (go_at_call 45; (with_reducible refine (risef_t xb _ (HM9.out.kd (by (repeat (first | exact Keeps.refl _ _ | refine Keeps.drew ?_ | refine Keeps.alloc ?_ _)))).x).mono ?_); rintro e w10 ⟨a10, e10, rfl, hk⟩; have K10 := Lib.hid (K9.out.trans (Keeps.trans (show Keeps (fun _ => False) w9 _ from by (repeat (first | exact Keeps.refl _ _ | refine Keeps.drew ?_ | refine Keeps.alloc ?_ _))) hk)); have cc10 := (HB8.out.keeps K10.out (fun h => h)).cell; have HM10 := Lib.hid (HM7.out.kd K10.out); have cm10 := fun o i => (HM10.out.kd ((Keeps.refl (fun _ => False) w10).alloc o)).m.cell i; clear hk cc9 cm9)
    refine wp_loop_rounds 1 ?_
    rw [rounds_succ]
    go_wp2
    rw [rounds_succ]
    go_wp2
    go_end0
    have q := HQ.out
    have z0 := K0.out.size
    exact ⟨oo, rfl, ((K5.out.then H6.out.1 (fun i hi e => by omega)).then K7.out (fun i _ h => h.elim)).then K10.out (fun i _ h => h.elim), HM10.out, (H6.out.2.keeps K7.out (fun h => h)).keeps K10.out (fun h => h), by omega⟩
end
end Mw
end Go.Proofs.YtdaindihobfokaaGreatDoor
