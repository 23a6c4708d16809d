/-
WiN: the document lays an update.
-/
import Derived.Test.YtdaindihobfokaaGreatDoorZbfWiM
namespace Go.Proofs.YtdaindihobfokaaGreatDoor
open Go.RowKit
set_option linter.unusedVariables false
set_option linter.unusedSimpArgs false
attribute [local go_sem] Oper.semAt_some
namespace Wi
open Mem
theorem points_none (w : World) : Calls Tryz.prog 147 #[.slice none 0 0, .slice none 0 0] w fun e w' => e = .returned (.bool true) ∧ w = w' := by
  go_enter Tryz.func147, Tryz.ntmps147
  go_wp2
  go_rounds 1
  go_ret
  exact ⟨rfl, rfl⟩
set_option maxRecDepth 20000 in
theorem shapes_none (w : World) : Calls Tryz.prog 105 #[.agg #[.int .u8 0, .slice none 0 0, .slice none 0 0, .int .i32 0], .agg #[.int .u8 0, .slice none 0 0, .slice none 0 0, .int .i32 0]] w fun e w' => e = .returned (.bool true) ∧ Keeps (fun _ => False) w w' := by
  go_enter Tryz.func105, Tryz.ntmps105
  go_wp2_with (go_at_call 147; (with_reducible refine (points_none _).mono ?_); rintro e w1 ⟨rfl, rfl⟩)
  go_rounds 1
  go_ret
  exact ⟨rfl, by (repeat (first | exact Keeps.refl _ _ | assumption | refine Keeps.alloc ?_ _ | refine Keeps.drew ?_))⟩
set_option maxHeartbeats 1000000 in
set_option maxRecDepth 20000 in
theorem same_t (id nu ti : Nat) (x y : Int) (w : World) : Calls Tryz.prog 70 #[.agg (upd id nu ti x y).toArray, .agg (upd id nu ti x y).toArray] w fun e w' => e = .returned (.bool true) ∧ Keeps (fun _ => False) w w' := by
  go_enter Tryz.func70, Tryz.ntmps70
  go_wp2_with (go_at_call 105; (with_reducible refine (shapes_none _).mono ?_); rintro e w1 ⟨rfl, hk⟩; have HK := Lib.hid hk; clear hk)
  go_ret
  exact ⟨rfl, (by (repeat (first | exact Keeps.refl _ _ | assumption | refine Keeps.alloc ?_ _ | refine Keeps.drew ?_)) : Keeps (fun _ => False) w _).trans HK.out⟩
set_option maxHeartbeats 1000000 in
set_option maxRecDepth 20000 in
theorem bare_t (id nu ti : Nat) (x y : Int) (w : World) : Calls Tryz.prog 71 #[.agg (upd id nu ti x y).toArray] w fun e w' => e = .returned (.agg (upd id nu ti x y).toArray) ∧ Keeps (fun _ => False) w w' := by
  go_enter Tryz.func71, Tryz.ntmps71
  go_wp2
  refine bodyPost_ret (results_cell_row rfl _ _ _ _ _ _ _ rfl (show Blk _ (w.heap.size + 1) _ (upd id nu ti x y) from by
    have h := (Blk.new (w.alloc (.cells (upd id nu ti x y).toArray 74)) 74 (upd id nu ti x y)).alloc (.cells (upd id nu ti x y).toArray 74)
    simp only [World.size_alloc] at h
    exact h) Tryz.underlying74 rfl (upd_info' _ _ _ _ _)) rfl ?_
  exact ⟨rfl, by (repeat (first | exact Keeps.refl _ _ | assumption | refine Keeps.alloc ?_ _ | refine Keeps.drew ?_))⟩
/-- an update's body, as bytes. -/
def bodyL (id nu ti xn yn : Nat) : List Nat := [1, 1] ++ le 4 id ++ (le 4 nu ++ (le 4 ti ++ (le 4 xn ++ le 4 yn)))
theorem join5_t (id nu ti xn yn : Nat) (W : World) (a4 a5 a6 a7 a8 : Option Addr) (c4 c5 c6 c7 c8 : Nat) (h4 : Bys W a4 ([1, 1] ++ le 4 id)) (h5 : Bys W a5 (le 4 nu)) (h6 : Bys W a6 (le 4 ti)) (h7 : Bys W a7 (le 4 xn)) (h8 : Bys W a8 (le 4 yn)) :
    Calls Tryz.prog 74 #[.slice (some ⟨W.heap.size, 0, none⟩) 5 5] (W.alloc (.cells #[.slice a4 6 c4, .slice a5 4 c5, .slice a6 4 c6, .slice a7 4 c7, .slice a8 4 c8] 65)) fun e w' => ∃ a c, e = .returned (.slice a 22 c) ∧ Keeps (fun _ => False) W w' ∧ Own w' W.heap.size a c (bodyL id nu ti xn yn) := by
  have hk : Keeps (fun _ => False) W (W.alloc (.cells #[.slice a4 6 c4, .slice a5 4 c5, .slice a6 4 c6, .slice a7 4 c7, .slice a8 4 c8] 65)) := by (repeat (first | exact Keeps.refl _ _ | assumption | refine Keeps.alloc ?_ _ | refine Keeps.drew ?_))
  have hb := Blk.new W 65 [.slice a4 6 c4, .slice a5 4 c5, .slice a6 4 c6, .slice a7 4 c7, .slice a8 4 c8]
  have hL : Lists (W.alloc (.cells #[.slice a4 6 c4, .slice a5 4 c5, .slice a6 4 c6, .slice a7 4 c7, .slice a8 4 c8] 65)) (some ⟨W.heap.size, 0, none⟩) [[1, 1] ++ le 4 id, le 4 nu, le 4 ti, le 4 xn, le 4 yn] := by
    intro i X hX
    refine ⟨W.heap.size, 0, ?_⟩
    rcases i with _ | _ | _ | _ | _ | i
    · obtain rfl : [1, 1] ++ le 4 id = X := by simpa using hX
      exact ⟨a4, c4, rfl, hb.cell 0, h4.keeps hk (far_none _)⟩
    · obtain rfl : le 4 nu = X := by simpa using hX
      exact ⟨a5, c5, rfl, hb.cell 1, h5.keeps hk (far_none _)⟩
    · obtain rfl : le 4 ti = X := by simpa using hX
      exact ⟨a6, c6, rfl, hb.cell 2, h6.keeps hk (far_none _)⟩
    · obtain rfl : le 4 xn = X := by simpa using hX
      exact ⟨a7, c7, rfl, hb.cell 3, h7.keeps hk (far_none _)⟩
    · obtain rfl : le 4 yn = X := by simpa using hX
      exact ⟨a8, c8, rfl, hb.cell 4, h8.keeps hk (far_none _)⟩
    · simp at hX
  have hf : [[1, 1] ++ le 4 id, le 4 nu, le 4 ti, le 4 xn, le 4 yn].flatten = bodyL id nu ti xn yn := by simp [bodyL]
  have hl : (bodyL id nu ti xn yn).length = 22 := by simp [bodyL, le_len]
  refine (join_t 5 [[1, 1] ++ le 4 id, le 4 nu, le 4 ti, le 4 xn, le 4 yn] rfl _ 5 _ hL (by rw [hf, hl]; decide) (by decide)).mono ?_
  rintro e w' ⟨a, c, N, rfl, hN, k2, ho⟩
  rw [hf] at hN ho
  rw [hl] at hN
  subst hN
  exact ⟨a, c, rfl, hk.trans k2, ho.base hk.size⟩
set_option maxHeartbeats 4000000 in
set_option maxRecDepth 20000 in
theorem body_t (id nu ti xn yn : Nat) (x y : Int) (h1 : id < 4294967296) (h2 : nu < 4294967296) (h3 : ti < 4294967296) (h4 : xn < 4294967296) (h5 : yn < 4294967296) (hx : IntKind.u32.wrap x = (xn : Int)) (hy : IntKind.u32.wrap y = (yn : Int)) (w : World) :
    Calls Tryz.prog 49 #[.agg (upd id nu ti x y).toArray] w fun e w' => ∃ a c, e = .returned (.tuple #[.slice a 22 c, .bool true]) ∧ Keeps (fun _ => False) w w' ∧ Own w' w.heap.size a c (bodyL id nu ti xn yn) := by
  have hb0 := Blk.new w 74 (upd id nu ti x y)
  have HSN := Lib.hid (show ∀ W', Keeps (fun _ => False) (w.alloc (.cells (upd id nu ti x y).toArray 74)) W' → ∀ i : Nat, W'.cell? ⟨w.heap.size, i, none⟩ = (upd id nu ti x y : List Value)[i]? from fun W' hk => (hb0.keeps hk (fun h => h)).cell)
  have hS0 := HSN.out _ (Keeps.refl _ _)
  have hK0 := Lib.hid (show Keeps (fun _ => False) w (w.alloc (.cells (upd id nu ti x y).toArray 74)) from by (repeat (first | exact Keeps.refl _ _ | assumption | refine Keeps.alloc ?_ _ | refine Keeps.drew ?_)))
  have HV := Lib.hid (And.intro h1 (And.intro h2 (And.intro h3 (And.intro h4 h5))))
  clear hb0 h1 h2 h3 h4 h5
  have J1 := Lib.hid (show ∀ (a b : Option Addr) (ca cb : Nat) (W : World), Bys W a [1, 1] → Bys W b (le 4 id) → Calls Tryz.prog 72 #[.slice a 2 ca, .slice b 4 cb] W (fun e w' => ∃ a c, e = .returned (.slice a 6 c) ∧ Keeps (fun _ => False) W w' ∧ Own w' W.heap.size a c ([1, 1] ++ le 4 id)) from fun a b ca cb W h1 h2 =>
    joined_t 2 4 [1, 1] (le 4 id) rfl (le_len 4 id).symm a b ca cb W h1 h2 (by decide))
  have JN := Lib.hid (fun W => join5_t id nu ti xn yn W)
  go_enter Tryz.func49, Tryz.ntmps49
  go_wp2
  go_region_held3 (fun W => ∀ i : Nat, W.cell? ⟨w.heap.size, i, none⟩ = (upd id nu ti x y : List Value)[i]?) (first | with_reducible assumption | exact HSN.out _ (by (repeat (first | exact Keeps.refl _ _ | with_reducible assumption | refine Keeps.drew ?_ | refine Keeps.alloc ?_ _ | with_reducible refine Keeps.trans ?_ K9.out | with_reducible refine Keeps.trans ?_ K8.out | with_reducible refine Keeps.trans ?_ K7.out | with_reducible refine Keeps.trans ?_ K6.out | with_reducible refine Keeps.trans ?_ K5.out | with_reducible refine Keeps.trans ?_ K4.out | with_reducible refine Keeps.trans ?_ K3.out | with_reducible refine Keeps.trans ?_ K2.out | with_reducible refine Keeps.trans ?_ K1.out)))) (first
    | (go_at_call 71; (with_reducible refine (bare_t _ _ _ _ _ _).mono ?_); rintro e w1 ⟨rfl, hk⟩; have K1 := Lib.hid hk; clear hk)
    | (go_at_call 70; (with_reducible refine (same_t _ _ _ _ _ _).mono ?_); rintro e w2 ⟨rfl, hk⟩; have K2 := Lib.hid hk; clear hk))
  have hS3 := HSN.out (w2.alloc (.cells #[.int .u8 1, .int .u8 1] 5)) (by (repeat (first | exact Keeps.refl _ _ | with_reducible assumption | refine Keeps.drew ?_ | refine Keeps.alloc ?_ _ | with_reducible refine Keeps.trans ?_ K9.out | with_reducible refine Keeps.trans ?_ K8.out | with_reducible refine Keeps.trans ?_ K7.out | with_reducible refine Keeps.trans ?_ K6.out | with_reducible refine Keeps.trans ?_ K5.out | with_reducible refine Keeps.trans ?_ K4.out | with_reducible refine Keeps.trans ?_ K3.out | with_reducible refine Keeps.trans ?_ K2.out | with_reducible refine Keeps.trans ?_ K1.out)))
  have hy3 := bys_new w2 [1, 1]
  have HY3 := Lib.hid hy3
  clear hy3 hS0
  go_wp2_with (first
    | (go_at_call 73; (with_reducible refine (four_t id HV.out.1 _).mono ?_); rintro e w3 ⟨a3, c3, rfl, hk, ho⟩; have K3 := Lib.hid hk; have O3 := Lib.hid ho; clear hk ho)
    | (go_at_call 72; (with_reducible refine (J1.out _ _ _ _ _ (HY3.out.keeps K3.out (far_none _)) O3.out.bys).mono ?_); rintro e w4 ⟨a4, c4, rfl, hk, ho⟩; have K4 := Lib.hid hk; have O4 := Lib.hid ho; have hS4 := HSN.out w4 (by (repeat (first | exact Keeps.refl _ _ | with_reducible assumption | refine Keeps.drew ?_ | refine Keeps.alloc ?_ _ | with_reducible refine Keeps.trans ?_ K9.out | with_reducible refine Keeps.trans ?_ K8.out | with_reducible refine Keeps.trans ?_ K7.out | with_reducible refine Keeps.trans ?_ K6.out | with_reducible refine Keeps.trans ?_ K5.out | with_reducible refine Keeps.trans ?_ K4.out | with_reducible refine Keeps.trans ?_ K3.out | with_reducible refine Keeps.trans ?_ K2.out | with_reducible refine Keeps.trans ?_ K1.out))); clear hk ho hS3))
  go_region_held3 (fun W => ∀ i : Nat, W.cell? ⟨w.heap.size, i, none⟩ = (upd id nu ti x y : List Value)[i]?) (first | with_reducible assumption | exact HSN.out _ (by (repeat (first | exact Keeps.refl _ _ | with_reducible assumption | refine Keeps.drew ?_ | refine Keeps.alloc ?_ _ | with_reducible refine Keeps.trans ?_ K9.out | with_reducible refine Keeps.trans ?_ K8.out | with_reducible refine Keeps.trans ?_ K7.out | with_reducible refine Keeps.trans ?_ K6.out | with_reducible refine Keeps.trans ?_ K5.out | with_reducible refine Keeps.trans ?_ K4.out | with_reducible refine Keeps.trans ?_ K3.out | with_reducible refine Keeps.trans ?_ K2.out | with_reducible refine Keeps.trans ?_ K1.out)))) (first
    | (go_at_call 73; (with_reducible refine (four_t nu HV.out.2.1 _).mono ?_); rintro e w5 ⟨a5, c5, rfl, hk, ho⟩; have K5 := Lib.hid hk; have O5 := Lib.hid ho; clear hk ho)
    | (go_at_call 73; (with_reducible refine (four_t ti HV.out.2.2.1 _).mono ?_); rintro e w6 ⟨a6, c6, rfl, hk, ho⟩; have K6 := Lib.hid hk; have O6 := Lib.hid ho; clear hk ho)
    | (go_at_call 73; (with_reducible refine (four_t xn HV.out.2.2.2.1 _).mono ?_); rintro e w7 ⟨a7, c7, rfl, hk, ho⟩; have K7 := Lib.hid hk; have O7 := Lib.hid ho; clear hk ho)
    | (go_at_call 73; (with_reducible refine (four_t yn HV.out.2.2.2.2 _).mono ?_); rintro e w8 ⟨a8, c8, rfl, hk, ho⟩; have K8 := Lib.hid hk; have O8 := Lib.hid ho; clear hk ho)
    | (go_at_call 74; (with_reducible refine (JN.out _ _ _ _ _ _ _ _ _ _ _ ?_ ?_ ?_ ?_ ?_).mono ?_); exact O4.out.bys.keeps (by (repeat (first | exact Keeps.refl _ _ | with_reducible assumption | refine Keeps.drew ?_ | refine Keeps.alloc ?_ _ | with_reducible refine Keeps.trans ?_ K9.out | with_reducible refine Keeps.trans ?_ K8.out | with_reducible refine Keeps.trans ?_ K7.out | with_reducible refine Keeps.trans ?_ K6.out | with_reducible refine Keeps.trans ?_ K5.out | with_reducible refine Keeps.trans ?_ K4.out | with_reducible refine Keeps.trans ?_ K3.out | with_reducible refine Keeps.trans ?_ K2.out | with_reducible refine Keeps.trans ?_ K1.out))) (far_none _); exact O5.out.bys.keeps (by (repeat (first | exact Keeps.refl _ _ | with_reducible assumption | refine Keeps.drew ?_ | refine Keeps.alloc ?_ _ | with_reducible refine Keeps.trans ?_ K9.out | with_reducible refine Keeps.trans ?_ K8.out | with_reducible refine Keeps.trans ?_ K7.out | with_reducible refine Keeps.trans ?_ K6.out | with_reducible refine Keeps.trans ?_ K5.out | with_reducible refine Keeps.trans ?_ K4.out | with_reducible refine Keeps.trans ?_ K3.out | with_reducible refine Keeps.trans ?_ K2.out | with_reducible refine Keeps.trans ?_ K1.out))) (far_none _); exact O6.out.bys.keeps (by (repeat (first | exact Keeps.refl _ _ | with_reducible assumption | refine Keeps.drew ?_ | refine Keeps.alloc ?_ _ | with_reducible refine Keeps.trans ?_ K9.out | with_reducible refine Keeps.trans ?_ K8.out | with_reducible refine Keeps.trans ?_ K7.out | with_reducible refine Keeps.trans ?_ K6.out | with_reducible refine Keeps.trans ?_ K5.out | with_reducible refine Keeps.trans ?_ K4.out | with_reducible refine Keeps.trans ?_ K3.out | with_reducible refine Keeps.trans ?_ K2.out | with_reducible refine Keeps.trans ?_ K1.out))) (far_none _); exact O7.out.bys.keeps (by (repeat (first | exact Keeps.refl _ _ | with_reducible assumption | refine Keeps.drew ?_ | refine Keeps.alloc ?_ _ | with_reducible refine Keeps.trans ?_ K9.out | with_reducible refine Keeps.trans ?_ K8.out | with_reducible refine Keeps.trans ?_ K7.out | with_reducible refine Keeps.trans ?_ K6.out | with_reducible refine Keeps.trans ?_ K5.out | with_reducible refine Keeps.trans ?_ K4.out | with_reducible refine Keeps.trans ?_ K3.out | with_reducible refine Keeps.trans ?_ K2.out | with_reducible refine Keeps.trans ?_ K1.out))) (far_none _); exact O8.out.bys.keeps (by (repeat (first | exact Keeps.refl _ _ | with_reducible assumption | refine Keeps.drew ?_ | refine Keeps.alloc ?_ _ | with_reducible refine Keeps.trans ?_ K9.out | with_reducible refine Keeps.trans ?_ K8.out | with_reducible refine Keeps.trans ?_ K7.out | with_reducible refine Keeps.trans ?_ K6.out | with_reducible refine Keeps.trans ?_ K5.out | with_reducible refine Keeps.trans ?_ K4.out | with_reducible refine Keeps.trans ?_ K3.out | with_reducible refine Keeps.trans ?_ K2.out | with_reducible refine Keeps.trans ?_ K1.out))) (far_none _); rintro e w9 ⟨a9, c9, rfl, hk, ho⟩; have K9 := Lib.hid hk; have O9 := Lib.hid ho; clear hk ho))
  all_goals
    go_wp2
    go_ret2
    exact ⟨a9, c9, rfl, hK0.out.trans (by (repeat (first | exact Keeps.refl _ _ | with_reducible assumption | refine Keeps.drew ?_ | refine Keeps.alloc ?_ _ | with_reducible refine Keeps.trans ?_ K9.out | with_reducible refine Keeps.trans ?_ K8.out | with_reducible refine Keeps.trans ?_ K7.out | with_reducible refine Keeps.trans ?_ K6.out | with_reducible refine Keeps.trans ?_ K5.out | with_reducible refine Keeps.trans ?_ K4.out | with_reducible refine Keeps.trans ?_ K3.out | with_reducible refine Keeps.trans ?_ K2.out | with_reducible refine Keeps.trans ?_ K1.out))), O9.out.base (Keeps.size (S := fun _ => False) (hK0.out.trans (by (repeat (first | exact Keeps.refl _ _ | with_reducible assumption | refine Keeps.drew ?_ | refine Keeps.alloc ?_ _ | with_reducible refine Keeps.trans ?_ K9.out | with_reducible refine Keeps.trans ?_ K8.out | with_reducible refine Keeps.trans ?_ K7.out | with_reducible refine Keeps.trans ?_ K6.out | with_reducible refine Keeps.trans ?_ K5.out | with_reducible refine Keeps.trans ?_ K4.out | with_reducible refine Keeps.trans ?_ K3.out | with_reducible refine Keeps.trans ?_ K2.out | with_reducible refine Keeps.trans ?_ K1.out)))))⟩
theorem body_len (id nu ti xn yn : Nat) : (bodyL id nu ti xn yn).length = 22 := by simp [bodyL, le_len]
theorem body_lt (id nu ti xn yn : Nat) : ∀ z ∈ bodyL id nu ti xn yn, z < 256 := by
  intro z hz
  simp only [bodyL, List.mem_append] at hz
  rcases hz with (hz | hz) | hz | hz | hz | hz
  · simp at hz; omega
  all_goals exact le_lt _ _ z hz
set_option maxHeartbeats 1000000 in
set_option maxRecDepth 20000 in
theorem lay_t (id nu ti xn yn : Nat) (x y : Int) (h1 : id < 4294967296) (h2 : nu < 4294967296) (h3 : ti < 4294967296) (h4 : xn < 4294967296) (h5 : yn < 4294967296) (hx : IntKind.u32.wrap x = (xn : Int)) (hy : IntKind.u32.wrap y = (yn : Int)) (w : World) :
    Calls Tryz.prog 28 #[.agg (upd id nu ti x y).toArray] w fun e w' => ∃ a c, e = .returned (.tuple #[.slice a 30 c, .int .i64 0]) ∧ Keeps (fun _ => False) w w' ∧ Own w' w.heap.size a c (frameL (bodyL id nu ti xn yn)) := by
  have hk0 : Keeps (fun _ => False) w (w.alloc (.cells (upd id nu ti x y).toArray 74)) := by (repeat (first | exact Keeps.refl _ _ | assumption | refine Keeps.alloc ?_ _ | refine Keeps.drew ?_))
  have HB := Lib.hid (body_t id nu ti xn yn x y h1 h2 h3 h4 h5 hx hy (w.alloc (.cells (upd id nu ti x y).toArray 74)))
  have HF := Lib.hid (show ∀ a c W, Bys W a (bodyL id nu ti xn yn) → Calls Tryz.prog 50 #[.slice a 22 c] W (fun e w' => ∃ a c, e = .returned (.tuple #[.slice a 30 c, .int .i64 0]) ∧ Keeps (fun _ => False) W w' ∧ Own w' W.heap.size a c (frameL (bodyL id nu ti xn yn))) from fun a c W h => frame_t 22 _ (body_len _ _ _ _ _).symm (by decide) (body_lt _ _ _ _ _) a c W h)
  have HK := Lib.hid hk0
  have hS := ((Blk.new w 74 (upd id nu ti x y)).cell)
  clear h1 h2 h3 h4 h5 hx hy hk0
  go_enter Tryz.func28, Tryz.ntmps28
  go_wp2_with (first
    | (go_at_call 49; (with_reducible refine HB.out.mono ?_); rintro e w1 ⟨a1, c1, rfl, hk, ho⟩; have K1 := Lib.hid (HK.out.trans hk); have O1 := Lib.hid ho; clear hk ho)
    | (go_at_call 50; (with_reducible refine (HF.out _ _ _ O1.out.bys).mono ?_); rintro e w2 ⟨a2, c2, rfl, hk, ho⟩; have K2 := Lib.hid (K1.out.trans hk); have O2 := Lib.hid (ho.base K1.out.size); clear hk ho))
  go_ret2
  exact ⟨_, _, rfl, K2.out, O2.out⟩
set_option maxHeartbeats 1000000 in
set_option maxRecDepth 20000 in
theorem put_t (id nu ti xn yn : Nat) (x y : Int) (h1 : id < 4294967296) (h2 : nu < 4294967296) (h3 : ti < 4294967296) (h4 : xn < 4294967296) (h5 : yn < 4294967296) (hx : IntKind.u32.wrap x = (xn : Int)) (hy : IntKind.u32.wrap y = (yn : Int)) (w : World) :
    Calls Tryz.prog 19 #[.agg (upd id nu ti x y).toArray] w fun e w' => ∃ a c, e = .returned (.slice a 30 c) ∧ Keeps (fun _ => False) w w' ∧ Own w' w.heap.size a c (frameL (bodyL id nu ti xn yn)) := by
  have hk0 : Keeps (fun _ => False) w (w.alloc (.cells (upd id nu ti x y).toArray 74)) := by (repeat (first | exact Keeps.refl _ _ | assumption | refine Keeps.alloc ?_ _ | refine Keeps.drew ?_))
  have HB := Lib.hid (lay_t id nu ti xn yn x y h1 h2 h3 h4 h5 hx hy (w.alloc (.cells (upd id nu ti x y).toArray 74)))
  have HK := Lib.hid hk0
  have hS := ((Blk.new w 74 (upd id nu ti x y)).cell)
  clear h1 h2 h3 h4 h5 hx hy hk0
  go_enter Tryz.func19, Tryz.ntmps19
  go_wp2_with (go_at_call 28; (with_reducible refine HB.out.mono ?_); rintro e w1 ⟨a1, c1, rfl, hk, ho⟩; have K1 := Lib.hid (HK.out.trans hk); have O1 := Lib.hid (ho.base HK.out.size); clear hk ho)
  go_ret
  exact ⟨_, _, rfl, K1.out, O1.out⟩
end Wi
end Go.Proofs.YtdaindihobfokaaGreatDoor
