/-
  AmN: the law: lanes.
-/
import Derived.Test.YtldlkepagmmohaaGreatDoorAmM
namespace Go.Proofs.YtldlkepagmmohaaGreatDoor
open Go.RowKit
set_option linter.unusedVariables false
set_option linter.unusedSimpArgs false
attribute [local go_sem] Oper.semAt_some
namespace Am
open Mem
theorem putu_t (w : World) : Calls Tryz.prog 11 #[.agg #[.int .u8 1, .int .u32 5, .int .u32 3, .int .u32 0, .int .i32 0, .int .i32 0, .int .u32 0, .int .u8 0, .slice none 0 0, .slice none 0 0, .int .i32 0, .string ⟨#[]⟩]] w fun e w' => ∃ g c, e = .returned (.slice (some ⟨g, 0, none⟩) 30 c) ∧ Keeps (fun _ => False) w w' ∧ Wi.Bys w' (some ⟨g, 0, none⟩) frL ∧ 30 ≤ c ∧ w.heap.size ≤ g := by
  refine (Wi.put_t 5 3 0 0 0 0 0 (by decide) (by decide) (by decide) (by decide) (by decide) (by kernel_rfl) (by kernel_rfl) w).mono ?_
  rintro e w' ⟨a, c, rfl, hk, ho⟩
  have hl : (Wi.frameL (Wi.bodyL 5 3 0 0 0)).length = 30 := by unfold Wi.frameL; simp [Wi.le_len, Wi.body_len]
  obtain ⟨g, rfl, hg, _, hc⟩ := (show Wi.Own w' w.heap.size a c (80 :: (Wi.frameL (Wi.bodyL 5 3 0 0 0)).tail) from ho).form
  have hc2 : (Wi.frameL (Wi.bodyL 5 3 0 0 0)).length ≤ c := hc
  rw [hl] at hc2
  exact ⟨g, c, rfl, hk, ho.bys, hc2, hg⟩
theorem bys_al {w5 : World} {g : Nat} (h : Wi.Bys w5 (some ⟨g, 0, none⟩) frL) : Wi.Bys ((w5.alloc (.cells (repL 0 0).toArray 49)).alloc (.cells tkL.toArray 53)) (some ⟨g, 0, none⟩) frL := h.keeps (by (repeat (first | exact Keeps.refl _ _ | assumption | refine Keeps.alloc ?_ _ | refine Keeps.drew ?_)) : Keeps (fun _ => False) w5 ((w5.alloc (.cells (repL 0 0).toArray 49)).alloc (.cells tkL.toArray 53))) (Wi.far_none _)
theorem tk_new (w5 : World) : Blk ((w5.alloc (.cells (repL 0 0).toArray 49)).alloc (.cells tkL.toArray 53)) (w5.heap.size + 1) 53 tkL := by
  have h := Blk.new (w5.alloc (.cells (repL 0 0).toArray 49)) 53 tkL
  simp only [World.size_alloc] at h
  exact h
set_option maxHeartbeats 2000000 in
set_option maxRecDepth 20000 in
theorem lives_t (w : World) : Calls Tryz.prog 6 #[] w fun e w' => e = .returned (.bool true) ∧ Keeps (fun _ => False) w w' := by
  have hpn : ∀ (p : Addr) W, (binOp .eql 39 (.pointer (some p)) (.pointer none)).run Tryz.prog W = .ok (.bool false) W := fun p W => by kernel_rfl
  go_enter Tryz.func6, Tryz.ntmps6
  go_wp2_with (first
    | (go_at_call 10; (with_reducible refine (small_yes _).mono ?_); rintro e w1 ⟨rfl, hk1⟩; have K1 := Lib.hid hk1; clear hk1)
    | (go_at_call 9; (with_reducible refine (new_yes _).mono ?_); rintro e w2 ⟨B, m1, m2, tb, lb, rfl, hk2, hb, hm1, hm2, hne, htb, hlb, hz⟩; have K2 := Lib.hid (K1.out.trans hk2); have HB := Lib.hid (And.intro hb (And.intro hm1 (And.intro hlb hz))); have Z1 := Lib.hid K1.out.size; have HNE := Lib.hid (show B ≠ lb ∧ B ≠ m1 ∧ lb < w2.heap.size ∧ m1 < w2.heap.size from ⟨Blk.ne_ hb hlb (by decide), hm1.ne hb, hlb.lt, hm1.lt⟩); clear hk2 hb hm1 hm2 hne htb hlb hz)
    | (go_at_call 11; (with_reducible refine (putu_t _).mono ?_); rintro e w3 ⟨g, c, rfl, hk3, hy3, hc3, hg3⟩; have K3 := Lib.hid hk3; have HY := Lib.hid (And.intro hy3 (And.intro hc3 hg3)); clear hk3 hy3 hc3 hg3)
    | (go_at_call 12; (with_reducible refine (admit_a B m1 m2 tb lb 0 g 0 c _ HY.out.2.1 HY.out.1 (HB.out.1.keeps K3.out (fun h => h)) (HB.out.2.2.1.keeps K3.out (fun h => h)) (HB.out.2.1.keeps K3.out (fun h => h))).mono ?_); rintro e w5 ⟨rfl, hk5, hm5⟩; have K5 := Lib.hid hk5; have H5 := Lib.hid (And.intro (HY.out.1.keeps hk5 (Wi.far_at (by have := HY.out.2.2; have := HNE.out; omega))) (And.intro ((HB.out.1.keeps K3.out (fun h => h)).keeps hk5 (fun e => e.elim HNE.out.1 HNE.out.2.1)) hm5)); clear hk5 hm5)
    | (go_at_call 12; (with_reducible refine (admit_s B m1 m2 tb lb 0 g 0 c ((w5.alloc (.cells (repL 0 0).toArray 49)).alloc (.cells tkL.toArray 53)) HY.out.2.1 (bys_al H5.out.1) ((H5.out.2.1.alloc _).alloc _) ((H5.out.2.2.alloc _).alloc _)).mono ?_); rintro e w6 ⟨rfl, hk6⟩; have k66 := (Keeps.trans hk6 (by (repeat (first | exact Keeps.refl _ _ | assumption | refine Keeps.alloc ?_ _ | refine Keeps.drew ?_)) : Keeps (fun _ => False) w6 ((w6.alloc (.cells (repL 5 0).toArray 49)).alloc (.cells nowL.toArray 53)))); have cr := (((Blk.new w5 49 (repL 0 0)).alloc (.cells tkL.toArray 53)).keeps k66 (fun h => h)).cell; have ct := ((tk_new w5).keeps k66 (fun h => h)).cell; have K6 := Lib.hid k66; clear hk6 k66)
    | (go_at_call 13; (with_reducible refine (known_t B m1 m2 tb lb 0 ((w6.alloc (.cells (repL 5 0).toArray 49)).alloc (.cells nowL.toArray 53)) (((H5.out.2.1.alloc _).alloc _).keeps K6.out (fun h => h)) (((H5.out.2.2.alloc _).alloc _).keeps K6.out (fun h => h))).mono ?_); rintro e w7 ⟨a7, c7, rfl, hk7⟩; have K7 := Lib.hid hk7; clear hk7))
  go_ret
  have q := HNE.out
  have z := HB.out.2.2.2
  have z1 := Z1.out
  have kA := (K2.out.trans K3.out).then K5.out (fun i hi e => by omega)
  exact ⟨rfl, ((kA.trans (by (repeat (first | exact Keeps.refl _ _ | assumption | refine Keeps.alloc ?_ _ | refine Keeps.drew ?_)) : Keeps (fun _ => False) w5 ((w5.alloc (.cells (repL 0 0).toArray 49)).alloc (.cells tkL.toArray 53)))).trans K6.out).trans K7.out⟩
end Am
end Go.Proofs.YtldlkepagmmohaaGreatDoor
