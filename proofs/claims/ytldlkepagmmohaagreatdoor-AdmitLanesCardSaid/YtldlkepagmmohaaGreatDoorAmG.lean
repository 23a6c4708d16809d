/-
  AmG: an update that is stale is refused.
-/
import Derived.Test.YtldlkepagmmohaaGreatDoorAmF
namespace Go.Proofs.YtldlkepagmmohaaGreatDoor
open Go.RowKit
set_option linter.unusedVariables false
set_option linter.unusedSimpArgs false
attribute [local go_sem] Oper.semAt_some
namespace Am
open Mem
theorem rfit5 : 0 + (repL 5 0).toArray.size ≤ (repL 0 0).length := by simp
theorem rone5 : (repL 5 0).toArray.all (·.oneCell') = true := by simp [Value.oneCell']
theorem rsame5 {w : World} {b : Nat} (h : Blk w b 49 ((repL 0 0).take 0 ++ (repL 5 0).toArray.toList ++ (repL 0 0).drop (0 + (repL 5 0).toArray.size))) : Blk w b 49 (repL 5 0) := h
set_option maxHeartbeats 4000000 in
set_option maxRecDepth 20000 in
theorem stale_t (ob B m1 m2 tb lb : Nat) (ep : Int) (w : World) (ho : Blk w ob 73 (ordL B)) (hb : Blk w B 65 (bookL m1 m2 tb lb ep)) (hm : Mp w m1 #[⟨.int .u32 5, .agg #[.bool true, .int .u32 3, .bool false, .int .i64 1], 0⟩] 1) : Calls Tryz.prog 18 #[.pointer (some ⟨ob, 0, none⟩)] w fun e w' => e = .returned (.agg (repL 5 0).toArray) ∧ Keeps (fun _ => False) w w' := by
  have hk0 : Keeps (fun _ => False) w (w.alloc (.cells (repL 0 0).toArray 49)) := by (repeat (first | exact Keeps.refl _ _ | assumption | refine Keeps.alloc ?_ _ | refine Keeps.drew ?_))
  have hR := Blk.new w 49 (repL 0 0)
  have HS := Lib.hid (fun W' (hk : Keeps (fun _ => False) (w.alloc (.cells (repL 0 0).toArray 49)) W') => (show (∀ i : Nat, W'.cell? ⟨ob, i, none⟩ = (ordL B : List Value)[i]?) ∧ (∀ i : Nat, W'.cell? ⟨B, i, none⟩ = (bookL m1 m2 tb lb ep : List Value)[i]?) ∧ (Instr.lookup 61 (.map (some m1)) (.int .u32 5) false).run Tryz.prog W' = .ok (.agg #[.bool true, .int .u32 3, .bool false, .int .i64 1]) W' from ⟨(ho.keeps (hk0.trans hk) (fun h => h)).cell, (hb.keeps (hk0.trans hk) (fun h => h)).cell, lk1 (hm.keeps (hk0.trans hk) (fun h => h))⟩))
  have hE := Blk.new (w.alloc (.cells (repL 0 0).toArray 49)) 81 [.bool true, .int .u32 3, .bool false, .int .i64 1]
  simp only [World.size_alloc] at hE
  have HSA := Lib.hid (fun W' (hk : Keeps (fun _ => False) ((w.alloc (.cells (repL 0 0).toArray 49)).alloc (.cells #[.bool true, .int .u32 3, .bool false, .int .i64 1] 81)) W') => (show (∀ i : Nat, W'.cell? ⟨ob, i, none⟩ = (ordL B : List Value)[i]?) ∧ (∀ i : Nat, W'.cell? ⟨(w.heap.size + 1), i, none⟩ = ([.bool true, .int .u32 3, .bool false, .int .i64 1] : List Value)[i]?) from ⟨(ho.keeps ((hk0.alloc _).trans hk) (fun h => h)).cell, (hE.keeps hk (fun h => h)).cell⟩))
  have hS := HS.out _ (Keeps.refl _ _)
  have HR := Lib.hid (And.intro hR hk0)
  have hS1 := HS.out (((w.alloc (.cells (repL 0 0).toArray 49)).alloc (.cells #[.bool true, .int .u32 3, .bool false, .int .i64 1] 81)).drew) (by (repeat (first | exact Keeps.refl _ _ | with_reducible assumption | refine Keeps.drew ?_ | refine Keeps.alloc ?_ _ | with_reducible refine Keeps.trans ?_ K2.out | with_reducible refine Keeps.trans ?_ K1.out | refine Keeps.setCell ?_ (fun h => by simp at h) _)))
  clear ho hb hm hR hk0 hE
  go_enter Tryz.func18, Tryz.ntmps18
  go_wp2
  apply join_one
  · go_region_held3 (fun W => (∀ i : Nat, W.cell? ⟨ob, i, none⟩ = (ordL B : List Value)[i]?) ∧ (∀ i : Nat, W.cell? ⟨B, i, none⟩ = (bookL m1 m2 tb lb ep : List Value)[i]?) ∧ (Instr.lookup 61 (.map (some m1)) (.int .u32 5) false).run Tryz.prog W = .ok (.agg #[.bool true, .int .u32 3, .bool false, .int .i64 1]) W) (first | with_reducible assumption | exact HS.out _ (by (repeat (first | exact Keeps.refl _ _ | with_reducible assumption | refine Keeps.drew ?_ | refine Keeps.alloc ?_ _ | with_reducible refine Keeps.trans ?_ K2.out | with_reducible refine Keeps.trans ?_ K1.out | refine Keeps.setCell ?_ (fun h => by simp at h) _)))) (first | fail)
    all_goals exact ⟨rfl, rfl⟩
  go_wp2_with (go_at_call 31; (with_reducible refine (in_zero _).mono ?_); rintro e w1 ⟨rfl, rfl⟩)
  apply join_one
  · go_region_held3 (fun W => (∀ i : Nat, W.cell? ⟨ob, i, none⟩ = (ordL B : List Value)[i]?) ∧ (∀ i : Nat, W.cell? ⟨(w.heap.size + 1), i, none⟩ = ([.bool true, .int .u32 3, .bool false, .int .i64 1] : List Value)[i]?)) (first | with_reducible assumption | exact HSA.out _ (by (repeat (first | exact Keeps.refl _ _ | with_reducible assumption | refine Keeps.drew ?_ | refine Keeps.alloc ?_ _ | with_reducible refine Keeps.trans ?_ K2.out | with_reducible refine Keeps.trans ?_ K1.out | refine Keeps.setCell ?_ (fun h => by simp at h) _)))) (first | fail)
    all_goals exact ⟨rfl, rfl⟩
  have hWE : Keeps (fun _ => False) (w.alloc (.cells (repL 0 0).toArray 49)) ((w.alloc (.cells (repL 0 0).toArray 49)).alloc (.cells #[.bool true, .int .u32 3, .bool false, .int .i64 1] 81)) := by (repeat (first | exact Keeps.refl _ _ | assumption | refine Keeps.alloc ?_ _ | refine Keeps.drew ?_))
  have HWE := Lib.hid hWE
  clear hWE
  go_wp2_with (first
    | (go_at_call 32; (with_reducible refine (refused_t 5 _).mono ?_); rintro e w2 ⟨rfl, hk2⟩; have K2 := Lib.hid hk2; have k9 : Keeps (fun _ => False) (w.alloc (.cells (repL 0 0).toArray 49)) w2 := (by (repeat (first | exact Keeps.refl _ _ | with_reducible assumption | refine Keeps.drew ?_ | refine Keeps.alloc ?_ _ | with_reducible refine Keeps.trans ?_ K2.out | with_reducible refine Keeps.trans ?_ K1.out | refine Keeps.setCell ?_ (fun h => by simp at h) _))); have HRB := Lib.hid (HR.out.1.keeps k9 (fun h => h)); have K9 := Lib.hid k9; clear hk2 k9)
    | (with_reducible refine wpList_store_blk rfl 49 (.tmp 2) (.tmp 48) rfl w.heap.size 0 49 (repL 0 0) (repL 5 0).toArray rfl rfl HRB.out rfit5 (rep_info 5 0) rone5 ?_; intro w10 hb10 hg10 hz10; have H10 := Lib.hid (And.intro (rsame5 hb10) hg10); clear hb10 hg10 hz10))
  refine bodyPost_ret (results_cell_row rfl _ _ _ _ _ _ _ rfl H10.out.1 Tryz.underlying49 rfl (rep_info 5 0)) rfl ?_
  exact ⟨rfl, (HR.out.2.trans K9.out).grown H10.out.2 (fun k hk e => by injection e with e; omega)⟩
end Am
end Go.Proofs.YtldlkepagmmohaaGreatDoor
