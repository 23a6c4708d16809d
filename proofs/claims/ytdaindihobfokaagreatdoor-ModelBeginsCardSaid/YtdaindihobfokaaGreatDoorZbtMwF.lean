/-
MwF: a command is answered: the update of the little script.
-/
import Derived.Test.YtdaindihobfokaaGreatDoorZbpMwE
namespace Go.Proofs.YtdaindihobfokaaGreatDoor
open Go.RowKit
set_option linter.unusedVariables false
set_option linter.unusedSimpArgs false
set_option linter.ambiguousOpen false
attribute [local go_sem] Oper.semAt_some
namespace Mw
open Mem Dr
theorem readu_t (g c : Nat) (w : World) (hB : Wi.Bys w (some ⟨g, 0, none⟩) frL) (hc : 30 ≤ c) : Calls Tryz.prog 31 #[.slice (some ⟨g, 0, none⟩) 30 c] w fun e w' => e = .returned (.tuple #[.agg #[.int .u8 1, .int .u32 3, .int .u32 1, .int .u32 0, .int .i32 5, .int .i32 0, .int .u32 0, .int .u8 0, .slice none 0 0, .slice none 0 0, .int .i32 0, .string ⟨#[]⟩], .int .i64 0]) ∧ Keeps (fun _ => False) w w' :=
  Wi.readput_t 3 1 0 5 0 5 0 (by decide) (by decide) (by decide) (by decide) (by decide) (by kernel_rfl) (by kernel_rfl) g 0 c w hB hc
section
variable {mb kb fb tb lb ob xb sb : Nat} {reps logs plcs : Value}
set_option maxHeartbeats 4000000 in
set_option maxRecDepth 20000 in
theorem admit_t (b c : Nat) (w : World) (h : MS w mb kb fb tb lb ob xb sb reps logs plcs (.slice none 0 0) (#[]) (#[]) 0 0) (hB : Wi.Bys w (some ⟨b, 0, none⟩) frL) (hc : 30 ≤ c) : Calls Tryz.prog 24 #[.pointer (some ⟨mb, 0, none⟩), .slice (some ⟨b, 0, none⟩) 30 c, .int .i64 0] w fun e w' => ∃ g qb, e = .returned (.agg (repL 0 0).toArray) ∧ Keeps (fun k => k = lb ∨ k = kb) w w' ∧ (∃ c, MS w' mb kb fb tb lb ob xb sb reps logs plcs (.slice (some ⟨g, 0, none⟩) 1 c) (#[⟨.int .u32 3, .int .u32 1, 0⟩]) (#[]) 1 0) ∧ w'.cell? ⟨g, 0, none⟩ = some (.pointer (some ⟨qb, 0, none⟩)) ∧ Blk w' qb 122 waitL ∧ w.heap.size ≤ g ∧ w.heap.size ≤ qb := by
  have HM := Lib.hid h
  have k0 : Keeps (fun _ => False) w ((w.alloc (.cells #[.pointer (some ⟨mb, 0, none⟩)] 81)).alloc (.cells (repL 0 0).toArray 95)) := by (repeat (first | exact Keeps.refl _ _ | refine Keeps.drew ?_ | refine Keeps.alloc ?_ _ | with_reducible refine Keeps.trans ?_ K1.out))
  have HRD := Lib.hid (readu_t b c _ (hB.keeps k0 (Wi.far_none _)) hc)
  have h3 : Blk ((w.alloc (.cells #[.pointer (some ⟨mb, 0, none⟩)] 81)).alloc (.cells (repL 0 0).toArray 95)) w.heap.size 81 [.pointer (some ⟨mb, 0, none⟩)] := (Blk.new w 81 [.pointer (some ⟨mb, 0, none⟩)]).alloc _
  have h6 : Blk ((w.alloc (.cells #[.pointer (some ⟨mb, 0, none⟩)] 81)).alloc (.cells (repL 0 0).toArray 95)) (w.heap.size + 1) 95 (repL 0 0) := by
    have := Blk.new (w.alloc (.cells #[.pointer (some ⟨mb, 0, none⟩)] 81)) 95 (repL 0 0)
    rwa [World.size_alloc] at this
  have HB := Lib.hid (And.intro h3 h6)
  have HK0 := Lib.hid k0
  clear h hB hc k0 h3 h6
  go_enter Tryz.func24, Tryz.ntmps24
  go_wp2_with (first
    | (go_at_call 31; (with_reducible refine HRD.out.mono ?_); rintro e w1 ⟨rfl, hk⟩; have K1 := Lib.hid (HK0.out.trans hk); have c3 := fun o i => ((HB.out.1.keeps hk (fun h => h)).alloc o).cell i; have HM1 := Lib.hid (fun o => (HM.out.kd (HK0.out.trans hk)).kd ((Keeps.refl (fun _ => False) w1).alloc o)); have hm1 := fun o i => (HM1.out o).m.cell i; have HB6 := Lib.hid (HB.out.2.keeps hk (fun h => h)); clear hk)
    | (go_at_call 32; (with_reducible refine (moves_t _ (HM1.out _)).mono ?_); rintro e w2 ⟨g, qb, rfl, hk, hm, hg, hq, hg1, hq1⟩; have H2 := Lib.hid (And.intro hk (And.intro hm (And.intro hg (And.intro hq (And.intro hg1 hq1))))); have Z2 := Lib.hid ((HB6.out.alloc (.cells #[.int .u8 1, .int .u32 3, .int .u32 1, .int .u32 0, .int .i32 5, .int .i32 0, .int .u32 0, .int .u8 0, .slice none 0 0, .slice none 0 0, .int .i32 0, .string ⟨#[]⟩] 74)).keeps hk (fun e => by have := HM.out.l.lt; have := HM.out.k.lt; omega)); clear hk hm hg hq hg1 hq1)
    | (with_reducible refine wpList_store_blk rfl 95 (.tmp 6) (.tmp 35) rfl _ 0 95 (repL 0 0) (repL 0 0).toArray rfl rfl Z2.out (by simp) (rep_info 0 0) (by simp [Value.oneCell']) ?_; intro w3 hb3 hg3 hs3; have H3 := Lib.hid (And.intro hb3 hg3); clear hb3 hg3 hs3))
  have z1 := K1.out.size
  have z2 := HB6.out.lt
  have z3 : (w1.alloc (.cells #[.int .u8 1, .int .u32 3, .int .u32 1, .int .u32 0, .int .i32 5, .int .i32 0, .int .u32 0, .int .u8 0, .slice none 0 0, .slice none 0 0, .int .i32 0, .string ⟨#[]⟩] 74)).heap.size = w1.heap.size + 1 := World.size_alloc _ _
  obtain ⟨hk, ⟨cc, m⟩, hg, hq, hg1, hq1⟩ := H2.out
  have kw2 : Keeps (fun k => k = lb ∨ k = kb) w w2 := ((K1.out.alloc (.cells #[.int .u8 1, .int .u32 3, .int .u32 1, .int .u32 0, .int .i32 5, .int .i32 0, .int .u32 0, .int .u8 0, .slice none 0 0, .slice none 0 0, .int .i32 0, .string ⟨#[]⟩] 74)).mono (T := fun k => k = lb ∨ k = kb) (fun _ _ h => h.elim)).then hk (fun i _ e => e)
  have kw3 : Keeps (fun k => k = lb ∨ k = kb) w w3 := kw2.grown H3.out.2 (fun k hk e => by cases e; omega)
  have k23 : Keeps (fun k => k = w.heap.size + 1) w2 w3 := (Keeps.refl _ _).grown H3.out.2 (fun k hk e => by cases e; rfl)
  have a1 := HM.out.m.lt
  have a2 := HM.out.l.lt
  have a3 := HM.out.k.lt
  have a4 := HM.out.o.lt
  have a5 := HM.out.x.lt
  refine bodyPost_ret (results_cell_row rfl _ _ _ _ _ _ _ rfl (by exact H3.out.1) Tryz.underlying95 rfl (rep_info 0 0)) rfl ?_
  exact ⟨rfl, kw3, g, ⟨cc, m.m.keeps k23 (by omega), m.l.keeps k23 (by omega), m.k.keeps k23 (by omega), m.o.keeps k23 (by omega), m.x.keeps k23 (by omega), m.ko, m.kx, m.ox⟩, qb, k23.cell hg (by simp only; omega), hq.keeps k23 (by omega), by omega, by omega⟩
end
end Mw
end Go.Proofs.YtdaindihobfokaaGreatDoor
