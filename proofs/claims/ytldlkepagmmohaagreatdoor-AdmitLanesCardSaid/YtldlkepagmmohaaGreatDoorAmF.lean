/-
  AmF: an update is admitted.
-/
import Derived.Test.YtldlkepagmmohaaGreatDoorAmE
namespace Go.Proofs.YtldlkepagmmohaaGreatDoor
open Go.RowKit
set_option linter.unusedVariables false
set_option linter.unusedSimpArgs false
attribute [local go_sem] Oper.semAt_some
namespace Am
open Mem
theorem join_one {P : Program} {c : Code} {K : Act → World → Prop} {Q : Exit → Act → World → Prop} {a A : Act} {w W : World} (h : c.wp P (Exit.then (fun a' w' => a' = A ∧ w' = W) (fun _ _ _ => False)) a w) (k : K A W) : c.wp P (Exit.then K Q) a w :=
  Code.wp_mono (fun e a' w' he => by
    cases e with
    | normal => obtain ⟨rfl, rfl⟩ := he; exact k
    | _ => exact he.elim) h
theorem join_w {P : Program} {c : Code} {K : Act → World → Prop} {Q : Exit → Act → World → Prop} {a A : Act} {w : World} (S : World → Prop) (h : c.wp P (Exit.then (fun a' w' => a' = A ∧ S w') (fun _ _ _ => False)) a w) (k : ∀ W, S W → K A W) : c.wp P (Exit.then K Q) a w :=
  Code.wp_mono (fun e a' w' he => by
    cases e with
    | normal => obtain ⟨rfl, h2⟩ := he; exact k _ h2
    | _ => exact he.elim) h
set_option maxHeartbeats 4000000 in
set_option maxRecDepth 20000 in
theorem update_t (ob B m1 m2 tb lb : Nat) (ep : Int) (w : World) (h : At0 w ob B m1 m2 tb lb ep) (hm : Mp w m1 #[] 0) : Calls Tryz.prog 18 #[.pointer (some ⟨ob, 0, none⟩)] w fun e w' => e = .returned (.agg (repL 0 0).toArray) ∧ Keeps (fun k => k = ob ∨ k = lb ∨ k = m1) w w' ∧ Blk w' ob 73 (ordW B) ∧ Mp w' m1 #[⟨.int .u32 5, .agg #[.bool true, .int .u32 3, .bool false, .int .i64 1], 0⟩] 1 := by
  have hk0 : Keeps (fun _ => False) w (w.alloc (.cells (repL 0 0).toArray 49)) := by (repeat (first | exact Keeps.refl _ _ | assumption | refine Keeps.alloc ?_ _ | refine Keeps.drew ?_))
  have h0 := h.keeps hk0
  have hm0 := hm.keeps hk0 (fun h => h)
  have hR := Blk.new w 49 (repL 0 0)
  have no : ob ≠ m1 := hm0.ne h0.ord
  have nb : B ≠ m1 := hm0.ne h0.book
  have nl : lb ≠ m1 := hm0.ne h0.lanes
  have nr : w.heap.size ≠ m1 := hm0.ne hR
  have HM := Lib.hid (fun W' (hk : Keeps (fun _ => False) (w.alloc (.cells (repL 0 0).toArray 49)) W') => hm0.keeps hk (fun h => h))
  have HG := Lib.hid (fun W' (hk : Keeps (fun k => k = m1) (w.alloc (.cells (repL 0 0).toArray 49)) W') => (show At0 W' ob B m1 m2 tb lb ep from ⟨h0.ord.keeps hk no, h0.book.keeps hk nb, h0.lanes.keeps hk nl⟩))
  have HS := Lib.hid (fun W' (hk : Keeps (fun _ => False) (w.alloc (.cells (repL 0 0).toArray 49)) W') => (show (∀ i : Nat, W'.cell? ⟨ob, i, none⟩ = (ordL B : List Value)[i]?) ∧ (∀ i : Nat, W'.cell? ⟨B, i, none⟩ = (bookL m1 m2 tb lb ep : List Value)[i]?) ∧ (Instr.lookup 61 (.map (some m1)) (.int .u32 5) false).run Tryz.prog W' = .ok (.agg #[.bool false, .int .u32 0, .bool false, .int .i64 0]) W' from ⟨(h0.ord.keeps hk (fun h => h)).cell, (h0.book.keeps hk (fun h => h)).cell, lk0 (hm0.keeps hk (fun h => h))⟩))
  have HS7 := Lib.hid (fun W' (hk : Keeps (fun _ => False) (w.alloc (.cells (repL 0 0).toArray 49)) W') => (show (∀ i : Nat, W'.cell? ⟨ob, i, none⟩ = (ordL B : List Value)[i]?) ∧ (∀ i : Nat, W'.cell? ⟨B, i, none⟩ = (bookL m1 m2 tb lb ep : List Value)[i]?) from ⟨(h0.ord.keeps hk (fun h => h)).cell, (h0.book.keeps hk (fun h => h)).cell⟩))
  have hS := HS.out _ (Keeps.refl _ _)
  have HR := Lib.hid (And.intro hR (And.intro hk0 (And.intro no (And.intro nb (And.intro nl nr)))))
  have HLT := Lib.hid (And.intro h.ord.lt (And.intro h.lanes.lt hm.lt))
  clear h h0 hm hm0 hR hk0 no nb nl nr
  go_enter Tryz.func18, Tryz.ntmps18
  go_wp2
  apply join_one
  · go_region_held3 (fun W => (∀ i : Nat, W.cell? ⟨ob, i, none⟩ = (ordL B : List Value)[i]?) ∧ (∀ i : Nat, W.cell? ⟨B, i, none⟩ = (bookL m1 m2 tb lb ep : List Value)[i]?) ∧ (Instr.lookup 61 (.map (some m1)) (.int .u32 5) false).run Tryz.prog W = .ok (.agg #[.bool false, .int .u32 0, .bool false, .int .i64 0]) W) (first | with_reducible assumption | exact HS.out _ (by (repeat (first | exact Keeps.refl _ _ | with_reducible assumption | refine Keeps.drew ?_ | refine Keeps.alloc ?_ _ | with_reducible refine Keeps.trans ?_ K2.out | with_reducible refine Keeps.trans ?_ K1.out | refine Keeps.setCell ?_ (fun h => by simp at h) _)))) (first | fail)
    all_goals exact ⟨rfl, rfl⟩
  have hS1 := HS.out (((w.alloc (.cells (repL 0 0).toArray 49)).alloc (.cells #[.bool false, .int .u32 0, .bool false, .int .i64 0] 81)).drew) (by (repeat (first | exact Keeps.refl _ _ | with_reducible assumption | refine Keeps.drew ?_ | refine Keeps.alloc ?_ _ | with_reducible refine Keeps.trans ?_ K2.out | with_reducible refine Keeps.trans ?_ K1.out | refine Keeps.setCell ?_ (fun h => by simp at h) _)))
  clear hS
  go_wp2_with (go_at_call 31; (with_reducible refine (in_zero _).mono ?_); rintro e w1 ⟨rfl, rfl⟩)
  have he0 : (((w.alloc (.cells (repL 0 0).toArray 49)).alloc (.cells #[.bool false, .int .u32 0, .bool false, .int .i64 0] 81)).drew).cell? ⟨w.heap.size + 1, 0, none⟩ = some (.bool false) := by
    have := (Blk.new (w.alloc (.cells (repL 0 0).toArray 49)) 81 [.bool false, .int .u32 0, .bool false, .int .i64 0]).cell 0
    simp
  have HE0 := Lib.hid he0
  clear he0
  apply join_one
  · refine wp_region_held_drew (S := fun W => W.cell? ⟨w.heap.size + 1, 0, none⟩ = some (.bool false)) (by kernel_rfl) (by exact HE0.out) (fun hS0 => ?_)
    (refine wpAnyH_take (i := 0) (v := ?_) rfl (by kernel_rfl) (by kernel_rfl) (by kernel_rfl) (fun _ _ _ h => False.elim h) (Or.inl ⟨by kernel_rfl, ?_⟩) (by with_reducible exact hS0) ?_; rotate_left; (focus (rintro w hSw; (try dsimp only at hSw); go_simp; (try with_reducible rfl))); simp only [Act.put, List.getElem_toArray, List.getElem_cons_succ, List.getElem_cons_zero, List.setIfInBounds_toArray, List.set_cons_zero, List.set_cons_succ])
    (refine wpAnyH_take (i := 1) (v := ?_) rfl (by kernel_rfl) (by kernel_rfl) (by kernel_rfl) (fun _ _ _ h => False.elim h) (Or.inl ⟨by kernel_rfl, ?_⟩) (by with_reducible exact hS0) ?_; rotate_left; (focus (rintro w hSw; (try dsimp only at hSw); go_simp; (try with_reducible rfl))); simp only [Act.put, List.getElem_toArray, List.getElem_cons_succ, List.getElem_cons_zero, List.setIfInBounds_toArray, List.set_cons_zero, List.set_cons_succ])
    (refine wpAnyH_take (i := 2) (v := ?_) rfl (by kernel_rfl) (by kernel_rfl) (by kernel_rfl) (fun _ _ _ h => False.elim h) (Or.inl ⟨by kernel_rfl, ?_⟩) (by with_reducible exact hS0) ?_; rotate_left; (focus (rintro w hSw; (try dsimp only at hSw); go_simp; (try with_reducible rfl))); simp only [Act.put, List.getElem_toArray, List.getElem_cons_succ, List.getElem_cons_zero, List.setIfInBounds_toArray, List.set_cons_zero, List.set_cons_succ])
    (refine wpAnyH_take (i := 3) (v := undef) rfl (by kernel_rfl) (by kernel_rfl) (by kernel_rfl) (fun _ _ _ h => False.elim h) (Or.inr ⟨by kernel_rfl, rfl⟩) (by with_reducible exact hS0) ?_; simp only [Act.put, List.getElem_toArray, List.getElem_cons_succ, List.getElem_cons_zero, List.setIfInBounds_toArray, List.set_cons_zero, List.set_cons_succ])
    (refine wpAnyH_take (i := 4) (v := undef) rfl (by kernel_rfl) (by kernel_rfl) (by kernel_rfl) (fun _ _ _ h => False.elim h) (Or.inr ⟨by kernel_rfl, rfl⟩) (by with_reducible exact hS0) ?_; simp only [Act.put, List.getElem_toArray, List.getElem_cons_succ, List.getElem_cons_zero, List.setIfInBounds_toArray, List.set_cons_zero, List.set_cons_succ])
    (refine wpAnyH_take (i := 5) (v := undef) rfl (by kernel_rfl) (by kernel_rfl) (by kernel_rfl) (fun _ _ _ h => False.elim h) (Or.inr ⟨by kernel_rfl, rfl⟩) (by with_reducible exact hS0) ?_; simp only [Act.put, List.getElem_toArray, List.getElem_cons_succ, List.getElem_cons_zero, List.setIfInBounds_toArray, List.set_cons_zero, List.set_cons_succ])
    (refine wpAnyH_take (i := 6) (v := undef) rfl (by kernel_rfl) (by kernel_rfl) (by kernel_rfl) (fun _ _ _ h => False.elim h) (Or.inr ⟨by kernel_rfl, rfl⟩) (by with_reducible exact hS0) ?_; simp only [Act.put, List.getElem_toArray, List.getElem_cons_succ, List.getElem_cons_zero, List.setIfInBounds_toArray, List.set_cons_zero, List.set_cons_succ])
    (refine wpAnyH_take (i := 7) (v := undef) rfl (by kernel_rfl) (by kernel_rfl) (by kernel_rfl) (fun _ _ _ h => False.elim h) (Or.inr ⟨by kernel_rfl, rfl⟩) (by with_reducible exact hS0) ?_; simp only [Act.put, List.getElem_toArray, List.getElem_cons_succ, List.getElem_cons_zero, List.setIfInBounds_toArray, List.set_cons_zero, List.set_cons_succ])
    (refine wpAnyH_take (i := 8) (v := undef) rfl (by kernel_rfl) (by kernel_rfl) (by kernel_rfl) (fun _ _ _ h => False.elim h) (Or.inr ⟨by kernel_rfl, rfl⟩) (by with_reducible exact hS0) ?_; simp only [Act.put, List.getElem_toArray, List.getElem_cons_succ, List.getElem_cons_zero, List.setIfInBounds_toArray, List.set_cons_zero, List.set_cons_succ])
    (refine wpAnyH_take (i := 9) (v := undef) rfl (by kernel_rfl) (by kernel_rfl) (by kernel_rfl) (fun _ _ _ h => False.elim h) (Or.inr ⟨by kernel_rfl, rfl⟩) (by with_reducible exact hS0) ?_; simp only [Act.put, List.getElem_toArray, List.getElem_cons_succ, List.getElem_cons_zero, List.setIfInBounds_toArray, List.set_cons_zero, List.set_cons_succ])
    (refine wpAnyH_take (i := 10) (v := undef) rfl (by kernel_rfl) (by kernel_rfl) (by kernel_rfl) (fun _ _ _ h => False.elim h) (Or.inr ⟨by kernel_rfl, rfl⟩) (by with_reducible exact hS0) ?_; simp only [Act.put, List.getElem_toArray, List.getElem_cons_succ, List.getElem_cons_zero, List.setIfInBounds_toArray, List.set_cons_zero, List.set_cons_succ])
    (refine wpAnyH_take (i := 11) (v := ?_) rfl (by kernel_rfl) (by kernel_rfl) (by kernel_rfl) (fun _ _ _ h => False.elim h) (Or.inl ⟨by kernel_rfl, ?_⟩) (by with_reducible exact hS0) ?_; rotate_left; (focus (rintro w hSw; (try dsimp only at hSw); go_simp; (try with_reducible rfl))); simp only [Act.put, List.getElem_toArray, List.getElem_cons_succ, List.getElem_cons_zero, List.setIfInBounds_toArray, List.set_cons_zero, List.set_cons_succ])
    (refine wpAnyH_take (i := 12) (v := ?_) rfl (by kernel_rfl) (by kernel_rfl) (by kernel_rfl) (fun _ _ _ h => False.elim h) (Or.inl ⟨by kernel_rfl, ?_⟩) (by with_reducible exact hS0) ?_; rotate_left; (focus (rintro w hSw; (try dsimp only at hSw); go_simp; (try with_reducible rfl))); simp only [Act.put, List.getElem_toArray, List.getElem_cons_succ, List.getElem_cons_zero, List.setIfInBounds_toArray, List.set_cons_zero, List.set_cons_succ])
    (refine wpAnyH_done (by kernel_rfl) ?_ _; exact ⟨rfl, rfl⟩)
  go_wp2
  go_region_held3 (fun W => (∀ i : Nat, W.cell? ⟨ob, i, none⟩ = (ordL B : List Value)[i]?) ∧ (∀ i : Nat, W.cell? ⟨B, i, none⟩ = (bookL m1 m2 tb lb ep : List Value)[i]?)) (first | with_reducible assumption | exact HS7.out _ (by (repeat (first | exact Keeps.refl _ _ | with_reducible assumption | refine Keeps.drew ?_ | refine Keeps.alloc ?_ _ | with_reducible refine Keeps.trans ?_ K2.out | with_reducible refine Keeps.trans ?_ K1.out | refine Keeps.setCell ?_ (fun h => by simp at h) _)))) (first
    | (go_at_call 33; (with_reducible refine (room_t m1 _ ?_).mono ?_); exact HM.out _ (by (repeat (first | exact Keeps.refl _ _ | with_reducible assumption | refine Keeps.drew ?_ | refine Keeps.alloc ?_ _ | with_reducible refine Keeps.trans ?_ K2.out | with_reducible refine Keeps.trans ?_ K1.out | refine Keeps.setCell ?_ (fun h => by simp at h) _))); rintro e w1 ⟨rfl, hk⟩; have K1 := Lib.hid hk; clear hk)
    | (go_at_call 34; (with_reducible refine (full_t ob B m1 m2 tb lb ep _ ?_).mono ?_); exact HG.out _ ((by (repeat (first | exact Keeps.refl _ _ | with_reducible assumption | refine Keeps.drew ?_ | refine Keeps.alloc ?_ _ | with_reducible refine Keeps.trans ?_ K2.out | with_reducible refine Keeps.trans ?_ K1.out | refine Keeps.setCell ?_ (fun h => by simp at h) _)) : Keeps (fun _ => False) (w.alloc (.cells (repL 0 0).toArray 49)) _).mono (fun _ _ h => h.elim)); rintro e w2 ⟨rfl, hk⟩; have K2 := Lib.hid hk; clear hk))
  have hE2 : Blk w2 (w.heap.size + 1) 81 [.bool false, .int .u32 0, .bool false, .int .i64 0] := by
    have h := Blk.new (w.alloc (.cells (repL 0 0).toArray 49)) 81 [.bool false, .int .u32 0, .bool false, .int .i64 0]
    simp only [World.size_alloc] at h
    exact h.keeps (by (repeat (first | exact Keeps.refl _ _ | with_reducible assumption | refine Keeps.drew ?_ | refine Keeps.alloc ?_ _ | with_reducible refine Keeps.trans ?_ K2.out | with_reducible refine Keeps.trans ?_ K1.out | refine Keeps.setCell ?_ (fun h => by simp at h) _)) : Keeps (fun _ => False) ((w.alloc (.cells (repL 0 0).toArray 49)).alloc (.cells #[.bool false, .int .u32 0, .bool false, .int .i64 0] 81)) w2) (fun h => h)
  have e0 := hE2.cell 0
  have e1 := hE2.cell 1
  have f0 := hE2.frozen 0
  have f1 := hE2.frozen 1
  have HE2 := Lib.hid hE2
  clear hE2
  go_wp2
  apply join_w (fun W => Keeps (fun _ => False) (w.alloc (.cells (repL 0 0).toArray 49)) W ∧ Blk W (w.heap.size + 1) 81 [.bool true, .int .u32 3, .bool false, .int .i64 0])
  · go_region_held3 (fun W => (∀ i : Nat, W.cell? ⟨ob, i, none⟩ = (ordL B : List Value)[i]?) ∧ (∀ i : Nat, W.cell? ⟨B, i, none⟩ = (bookL m1 m2 tb lb ep : List Value)[i]?)) (first | with_reducible assumption | exact HS7.out _ (by (repeat (first | exact Keeps.refl _ _ | with_reducible assumption | refine Keeps.drew ?_ | refine Keeps.alloc ?_ _ | with_reducible refine Keeps.trans ?_ K2.out | with_reducible refine Keeps.trans ?_ K1.out | refine Keeps.setCell ?_ (fun h => by simp at h) _)))) (first | fail)
    all_goals exact ⟨rfl, by (repeat (first | exact Keeps.refl _ _ | with_reducible assumption | refine Keeps.drew ?_ | refine Keeps.alloc ?_ _ | with_reducible refine Keeps.trans ?_ K2.out | with_reducible refine Keeps.trans ?_ K1.out | refine Keeps.setCell ?_ (fun h => by simp at h) _)), by first | exact (HE2.out.set_ 0 _).set_ 1 _ | exact (HE2.out.set_ 1 _).set_ 0 _⟩
  rintro w5 ⟨hk5, hE5⟩
  have K5 := Lib.hid hk5
  have g3 := hE5.cell 3
  have q3 := hE5.frozen 3
  have hE6 := hE5.set_ 3 (.int .i64 1)
  have HE6 := Lib.hid (show Blk _ _ _ [.bool true, .int .u32 3, .bool false, .int .i64 1] from hE6)
  have K6 := Lib.hid (show Keeps (fun _ => False) (w.alloc (.cells (repL 0 0).toArray 49)) (w5.setCell ⟨(w.heap.size + 1), 3, none⟩ (.int .i64 1)) from hk5.setCell (fun h => by simp at h) _)
  clear hk5 hE5 hE6 e0 e1 f0 f1
  go_wp2
  have neE : (w.heap.size + 1) ≠ m1 := by have := HLT.out; omega
  have HX8 := Lib.hid (fun W' (hk : Keeps (fun k => k = m1) (w5.setCell ⟨(w.heap.size + 1), 3, none⟩ (.int .i64 1)) W') => And.intro (HG.out W' ((K6.out.mono (T := fun k => k = m1) (fun _ _ h => h.elim)).trans hk)) (HE6.out.keeps hk neE))
  have HS8 := Lib.hid (fun W' (hk : Keeps (fun k => k = m1) (w5.setCell ⟨(w.heap.size + 1), 3, none⟩ (.int .i64 1)) W') => (show (∀ i : Nat, W'.cell? ⟨ob, i, none⟩ = (ordL B : List Value)[i]?) ∧ (∀ i : Nat, W'.cell? ⟨B, i, none⟩ = (bookL m1 m2 tb lb ep : List Value)[i]?) ∧ (∀ i : Nat, W'.cell? ⟨(w.heap.size + 1), i, none⟩ = ([.bool true, .int .u32 3, .bool false, .int .i64 1] : List Value)[i]?) from ⟨(HX8.out W' hk).1.ord.cell, (HX8.out W' hk).1.book.cell, (HX8.out W' hk).2.cell⟩))
  apply join_w (fun W => Keeps (fun k => k = m1) (w5.setCell ⟨(w.heap.size + 1), 3, none⟩ (.int .i64 1)) W ∧ Mp W m1 #[⟨.int .u32 5, .agg #[.bool true, .int .u32 3, .bool false, .int .i64 1], 0⟩] 1)
  · go_region_held3 (fun W => (∀ i : Nat, W.cell? ⟨ob, i, none⟩ = (ordL B : List Value)[i]?) ∧ (∀ i : Nat, W.cell? ⟨B, i, none⟩ = (bookL m1 m2 tb lb ep : List Value)[i]?) ∧ (∀ i : Nat, W.cell? ⟨(w.heap.size + 1), i, none⟩ = ([.bool true, .int .u32 3, .bool false, .int .i64 1] : List Value)[i]?)) (first | with_reducible assumption | exact HS8.out _ (by (repeat (first | exact Keeps.refl _ _ | refine Keeps.drew ?_ | with_reducible refine Keeps.trans ?_ K7.out)))) (first
      | (go_at_call 35; (with_reducible refine (set_t m1 3 _ ?_).mono ?_); exact HM.out _ (by (repeat (first | exact K6.out | refine Keeps.drew ?_))); rintro e w7 ⟨rfl, hk7, hm7⟩; have K7 := Lib.hid hk7; have M7 := Lib.hid hm7; clear hk7 hm7))
    all_goals exact ⟨rfl, by (repeat (first | exact Keeps.refl _ _ | refine Keeps.drew ?_ | with_reducible refine Keeps.trans ?_ K7.out)), M7.out⟩
  rintro w8 ⟨hk8, hm8⟩
  have K8 := Lib.hid (And.intro hk8 (And.intro hm8 (HX8.out w8 hk8).1))
  clear hk8 hm8 neE
  go_wp2_with (first
    | (go_at_call 36; (with_reducible refine (waits_t ob B m1 m2 tb lb ep _ K8.out.2.2).mono ?_); rintro e w9 ⟨rfl, hk9, hb9⟩; have K9 := Lib.hid (And.intro hk9 hb9); have HRB := Lib.hid (((HR.out.1.keeps K6.out (fun h => h)).keeps K8.out.1 HR.out.2.2.2.2.2).keeps hk9 (fun e => by have := HLT.out; omega)); clear hk9 hb9)
    | (with_reducible refine wpList_store_blk rfl 49 (.tmp 2) (.tmp 103) rfl w.heap.size 0 49 (repL 0 0) (repL 0 0).toArray rfl rfl HRB.out rfit (rep_info 0 0) rone ?_; intro w10 hb10 hg10 hz10; have H10 := Lib.hid (And.intro (rsame hb10) hg10); clear hb10 hg10 hz10))
  refine bodyPost_ret (results_cell_row rfl _ _ _ _ _ _ _ rfl H10.out.1 Tryz.underlying49 rfl (rep_info 0 0)) rfl ?_
  have q := HLT.out
  have nr := HR.out.2.2.2.2.2
  have kA : Keeps (fun k => k = ob ∨ k = lb ∨ k = m1) w (w5.setCell ⟨(w.heap.size + 1), 3, none⟩ (.int .i64 1)) := (HR.out.2.1.trans K6.out).mono (fun _ _ h => h.elim)
  have kB := (kA.then K8.out.1 (fun _ _ e => .inr (.inr e))).then K9.out.1 (fun _ _ e => e.elim .inl (fun e => .inr (.inl e)))
  have nm1 : m1 ≠ ob ∧ m1 ≠ lb := ⟨fun e => HR.out.2.2.1 e.symm, fun e => HR.out.2.2.2.2.1 e.symm⟩
  exact ⟨rfl, kB.grown H10.out.2 (fun k hk e => by injection e with e; omega), K9.out.2.grown H10.out.2 (fun e => by injection e with e; omega), (K8.out.2.1.keeps K9.out.1 (fun e => e.elim nm1.1 nm1.2)).keeps (Keeps.of_grown H10.out.2) (fun e => by injection e with e; omega)⟩
end Am
end Go.Proofs.YtldlkepagmmohaaGreatDoor
