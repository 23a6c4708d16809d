/-
  MatA: no world, and a zero one: what each call answers.
-/
import Derived.Test.YtppiohmnbffndaaGreatDoorMem
import Derived.Test.YtppiohmnbffndaaGreatDoorHeld
namespace Go.Proofs.YtppiohmnbffndaaGreatDoor
open Go.RowKit
set_option linter.unusedVariables false
set_option linter.unusedSimpArgs false
attribute [local go_sem] Oper.semAt_some
namespace Match
open Mem
def Gave (v : Value) (w1 : World) (e : Ending) (w' : World) : Prop := e = .returned v ∧ w1 = w'
def NilW (w : World) (p : Option Addr) : Prop := p = none ∨ ∃ Z, p = some ⟨Z, 0, none⟩ ∧ Blk w Z 42 [.int .i64 0, .int .i64 0, .pointer none, .slice none 0 0, .nilIface, .pointer none]
theorem NilW.kd {w w' : World} {p : Option Addr} (h : NilW w p) (hk : Keeps (fun _ => False) w w') : NilW w' p := by
  rcases h with h | ⟨Z, h, hb⟩
  · exact .inl h
  · exact .inr ⟨Z, h, hb.keeps hk (fun h => h)⟩
theorem there_no (p : Option Addr) (w : World) (h : NilW w p) :
    Calls Tryz.prog 17 #[.pointer p] w fun e w' => e = .returned (.bool false) ∧ w = w' := by
  rcases h with rfl | ⟨Z, rfl, hb⟩
  · go_enter Tryz.func17, Tryz.ntmps17
    go_wp2
    go_ret
    exact ⟨rfl, rfl⟩
  · have c := hb.cell
    clear hb
    go_enter Tryz.func17, Tryz.ntmps17
    go_wp2
    go_ret
    exact ⟨rfl, rfl⟩
theorem forget_no (p : Option Addr) (a b : Int) (w : World) (h : NilW w p) :
    Calls Tryz.prog 8 #[.pointer p, .int .u32 a, .int .u32 b] w (Gave (.slice none 0 0) w) := by
  have H := Lib.hid h; clear h
  go_enter Tryz.func8, Tryz.ntmps8
  go_wp2_with (go_at_call 17; refine (there_no p _ (H.out.kd (Keeps.refl _ _))).mono ?_; rintro e w1 ⟨rfl, rfl⟩)
  go_ret
  exact ⟨rfl, rfl⟩
theorem unfence_no (p : Option Addr) (a b : Int) (w : World) (h : NilW w p) :
    Calls Tryz.prog 9 #[.pointer p, .int .u32 a, .int .u32 b] w (Gave (.slice none 0 0) w) := by
  have H := Lib.hid h; clear h
  go_enter Tryz.func9, Tryz.ntmps9
  go_wp2_with (go_at_call 17; refine (there_no p _ (H.out.kd (Keeps.refl _ _))).mono ?_; rintro e w1 ⟨rfl, rfl⟩)
  go_ret
  exact ⟨rfl, rfl⟩
theorem hasdue_no (p : Option Addr) (a : Int) (w : World) (h : NilW w p) :
    Calls Tryz.prog 10 #[.pointer p, .int .u32 a] w (Gave (.bool false) w) := by
  have H := Lib.hid h; clear h
  go_enter Tryz.func10, Tryz.ntmps10
  go_wp2_with (go_at_call 17; refine (there_no p _ (H.out.kd (Keeps.refl _ _))).mono ?_; rintro e w1 ⟨rfl, rfl⟩)
  go_ret
  exact ⟨rfl, rfl⟩
theorem hasobject_no (p : Option Addr) (a : Int) (w : World) (h : NilW w p) :
    Calls Tryz.prog 11 #[.pointer p, .int .u32 a] w (Gave (.bool false) w) := by
  have H := Lib.hid h; clear h
  go_enter Tryz.func11, Tryz.ntmps11
  go_wp2_with (go_at_call 17; refine (there_no p _ (H.out.kd (Keeps.refl _ _))).mono ?_; rintro e w1 ⟨rfl, rfl⟩)
  go_ret
  exact ⟨rfl, rfl⟩
theorem hasfence_no (p : Option Addr) (a : Int) (w : World) (h : NilW w p) :
    Calls Tryz.prog 12 #[.pointer p, .int .u32 a] w (Gave (.bool false) w) := by
  have H := Lib.hid h; clear h
  go_enter Tryz.func12, Tryz.ntmps12
  go_wp2_with (go_at_call 17; refine (there_no p _ (H.out.kd (Keeps.refl _ _))).mono ?_; rintro e w1 ⟨rfl, rfl⟩)
  go_ret
  exact ⟨rfl, rfl⟩
theorem worst_no (p : Option Addr) (a : Int) (w : World) (h : NilW w p) :
    Calls Tryz.prog 13 #[.pointer p, .int .u8 a] w (Gave (.int .i64 0) w) := by
  have H := Lib.hid h; clear h
  go_enter Tryz.func13, Tryz.ntmps13
  go_wp2_with (go_at_call 17; refine (there_no p _ (H.out.kd (Keeps.refl _ _))).mono ?_; rintro e w1 ⟨rfl, rfl⟩)
  go_ret
  exact ⟨rfl, rfl⟩
theorem objects_no (p : Option Addr) (w : World) (h : NilW w p) :
    Calls Tryz.prog 14 #[.pointer p] w (Gave (.slice none 0 0) w) := by
  have H := Lib.hid h; clear h
  go_enter Tryz.func14, Tryz.ntmps14
  go_wp2_with (go_at_call 17; refine (there_no p _ (H.out.kd (Keeps.refl _ _))).mono ?_; rintro e w1 ⟨rfl, rfl⟩)
  go_ret
  exact ⟨rfl, rfl⟩
theorem fences_no (p : Option Addr) (w : World) (h : NilW w p) :
    Calls Tryz.prog 15 #[.pointer p] w (Gave (.slice none 0 0) w) := by
  have H := Lib.hid h; clear h
  go_enter Tryz.func15, Tryz.ntmps15
  go_wp2_with (go_at_call 17; refine (there_no p _ (H.out.kd (Keeps.refl _ _))).mono ?_; rintro e w1 ⟨rfl, rfl⟩)
  go_ret
  exact ⟨rfl, rfl⟩
theorem dues_no (p : Option Addr) (w : World) (h : NilW w p) :
    Calls Tryz.prog 16 #[.pointer p] w (Gave (.slice none 0 0) w) := by
  have H := Lib.hid h; clear h
  go_enter Tryz.func16, Tryz.ntmps16
  go_wp2_with (go_at_call 17; refine (there_no p _ (H.out.kd (Keeps.refl _ _))).mono ?_; rintro e w1 ⟨rfl, rfl⟩)
  go_ret
  exact ⟨rfl, rfl⟩
theorem update_no (p : Option Addr) (a b c x y d : Int) (w : World) (h : NilW w p) :
    Calls Tryz.prog 5 #[.pointer p, .int .u32 a, .int .u32 b, .int .u32 c, .agg #[.int .i32 x, .int .i32 y], .int .u32 d] w (Gave (.tuple #[.slice none 0 0, .int .i64 1]) ((((w.alloc (.cells #[.pointer p] 34)).alloc (.cells #[.int .u32 a] 22)).alloc (.cells #[.int .i32 x, .int .i32 y] 24)).alloc (.cells #[.int .u32 d] 22))) := by
  have H := Lib.hid h; clear h
  have k1 := ((((Keeps.refl (fun _ => False) w).alloc (.cells #[.pointer p] 34)).alloc (.cells #[.int .u32 a] 22)).alloc (.cells #[.int .i32 x, .int .i32 y] 24)).alloc (.cells #[.int .u32 d] 22)
  have HK := Lib.hid k1
  clear k1
  go_enter Tryz.func5, Tryz.ntmps5
  go_wp2_with (go_at_call 17; refine (there_no p _ (H.out.kd HK.out)).mono ?_; rintro e w1 ⟨rfl, rfl⟩)
  go_ret2
  exact ⟨rfl, rfl⟩
theorem fence_no (p : Option Addr) (fid dw sk sz d : Int) (va ha : Option Addr) (vn vc hn hc : Nat) (w : World) (h : NilW w p) :
    Calls Tryz.prog 6 #[.pointer p, .agg #[.int .u32 fid, .int .u32 dw, .int .u8 sk, .slice va vn vc, .slice ha hn hc, .int .i32 sz], .int .u32 d] w (Gave (.tuple #[.slice none 0 0, .int .i64 1]) (((w.alloc (.cells #[.pointer p] 34)).alloc (.cells #[.int .u32 fid, .int .u32 dw, .int .u8 sk, .slice va vn vc, .slice ha hn hc, .int .i32 sz] 31)).alloc (.cells #[.int .u32 d] 22))) := by
  have H := Lib.hid h; clear h
  have k1 := (((Keeps.refl (fun _ => False) w).alloc (.cells #[.pointer p] 34)).alloc (.cells #[.int .u32 fid, .int .u32 dw, .int .u8 sk, .slice va vn vc, .slice ha hn hc, .int .i32 sz] 31)).alloc (.cells #[.int .u32 d] 22)
  have HK := Lib.hid k1
  clear k1
  go_enter Tryz.func6, Tryz.ntmps6
  go_wp2_with (go_at_call 17; refine (there_no p _ (H.out.kd HK.out)).mono ?_; rintro e w1 ⟨rfl, rfl⟩)
  go_ret2
  exact ⟨rfl, rfl⟩
theorem run_store_float {P : Program} {w : World} {a : Addr} {m : Mode} (k : FloatKind) (n : Nat) : (store a (.float k n) m).run P w = stored P w a (.float k n) m := run_store P w a _ m rfl
attribute [local go_sem] run_store_float
theorem due_no (p : Option Addr) (d : Int) (w : World) (h : NilW w p) :
    Calls Tryz.prog 7 #[.pointer p, .int .u32 d] w (Gave (.tuple #[.agg #[.int .u8 0, .int .u32 0, .int .u32 0, .int .u32 0, .int .i32 0, .int .i32 0, .int .u32 0, .float .f64 0], .bool false]) (w.alloc (.cells #[.int .u8 0, .int .u32 0, .int .u32 0, .int .u32 0, .int .i32 0, .int .i32 0, .int .u32 0, .float .f64 0] 52))) := by
  have H := Lib.hid h; clear h
  have k1 := (Keeps.refl (fun _ => False) w).alloc (.cells #[.int .u8 0, .int .u32 0, .int .u32 0, .int .u32 0, .int .i32 0, .int .i32 0, .int .u32 0, .float .f64 0] 52)
  have HK := Lib.hid k1
  clear k1
  go_enter Tryz.func7, Tryz.ntmps7
  go_wp2_with (go_at_call 10; refine (hasdue_no p _ _ (H.out.kd HK.out)).mono ?_; rintro e w1 ⟨rfl, rfl⟩)
  exact bodyPost_ret (results_row_tmp rfl _ _ w.heap.size _ _ _ _ rfl (Blk.new w 52 [.int .u8 0, .int .u32 0, .int .u32 0, .int .u32 0, .int .i32 0, .int .i32 0, .int .u32 0, .float .f64 0]) Tryz.underlying52 rfl (by kernel_rfl)) rfl ⟨rfl, rfl⟩
theorem eq_event (W : World) : (binOp .eql 52 (.agg #[.int .u8 0, .int .u32 0, .int .u32 0, .int .u32 0, .int .i32 0, .int .i32 0, .int .u32 0, .float .f64 0]) (.agg #[.int .u8 0, .int .u32 0, .int .u32 0, .int .u32 0, .int .i32 0, .int .i32 0, .int .u32 0, .float .f64 0])).run Tryz.prog W = .ok (.bool true) W := by kernel_rfl
set_option maxHeartbeats 4000000 in
set_option maxRecDepth 100000 in
theorem nothing_any (p : Option Addr) (k id nu ti px py fid dw sk sz ck : Int) (va ha : Option Addr) (vn vc hn hc : Nat) (w : World) (h : NilW w p) :
    Calls Tryz.prog 4 #[.pointer p, .agg #[.int .i64 k, .int .u32 id, .int .u32 nu, .int .u32 ti, .int .i32 px, .int .i32 py, .int .u32 fid, .int .u32 dw, .int .u8 sk, .slice va vn vc, .slice ha hn hc, .int .i32 sz, .int .u32 ck]] w fun e w' => e = .returned (.bool true) ∧ Keeps (fun _ => False) w w' := by
  have H := Lib.hid h
  clear h
  have k0 := (Keeps.refl (fun _ => False) w).alloc (.cells #[.int .i64 k, .int .u32 id, .int .u32 nu, .int .u32 ti, .int .i32 px, .int .i32 py, .int .u32 fid, .int .u32 dw, .int .u8 sk, .slice va vn vc, .slice ha hn hc, .int .i32 sz, .int .u32 ck] 33)
  have b0 := Blk.new w 33 [.int .i64 k, .int .u32 id, .int .u32 nu, .int .u32 ti, .int .i32 px, .int .i32 py, .int .u32 fid, .int .u32 dw, .int .u8 sk, .slice va vn vc, .slice ha hn hc, .int .i32 sz, .int .u32 ck]
  obtain ⟨W0, hW0⟩ : ∃ W0, W0 = w.alloc (.cells #[.int .i64 k, .int .u32 id, .int .u32 nu, .int .u32 ti, .int .i32 px, .int .i32 py, .int .u32 fid, .int .u32 dw, .int .u8 sk, .slice va vn vc, .slice ha hn hc, .int .i32 sz, .int .u32 ck] 33) := ⟨_, rfl⟩
  have HW := Lib.hid hW0
  rw [← hW0] at k0 b0
  clear hW0
  have HK := Lib.hid k0
  clear k0 b0
  go_enter Tryz.func4, Tryz.ntmps4
  go_wp2_with (first
    | (go_at_call 5; refine (update_no p _ _ _ _ _ _ _ (H.out.kd ((Keeps.refl _ w).alloc _))).mono ?_; rintro e w1 ⟨rfl, rfl⟩)
    | (go_at_call 6; refine (fence_no p _ _ _ _ _ _ _ _ _ _ _ _ (H.out.kd ((((((Keeps.refl _ w).alloc _).alloc _).alloc _).alloc _).alloc _))).mono ?_; rintro e w1 ⟨rfl, rfl⟩)
    | (go_at_call 7; refine (due_no p _ _ (H.out.kd (((((((((Keeps.refl _ w).alloc _).alloc _).alloc _).alloc _).alloc _).alloc _).alloc _).alloc _))).mono ?_; rintro e w1 ⟨rfl, rfl⟩))
  have k4 := ((((((((((Keeps.refl (fun _ => False) w).alloc (.cells #[.int .i64 k, .int .u32 id, .int .u32 nu, .int .u32 ti, .int .i32 px, .int .i32 py, .int .u32 fid, .int .u32 dw, .int .u8 sk, .slice va vn vc, .slice ha hn hc, .int .i32 sz, .int .u32 ck] 33)).alloc (.cells #[.pointer p] 34)).alloc (.cells #[.int .u32 id] 22)).alloc (.cells #[.int .i32 px, .int .i32 py] 24)).alloc (.cells #[.int .u32 ck] 22)).alloc (.cells #[.pointer p] 34)).alloc (.cells #[.int .u32 fid, .int .u32 dw, .int .u8 sk, .slice va vn vc, .slice ha hn hc, .int .i32 sz] 31)).alloc (.cells #[.int .u32 ck] 22)).alloc (.cells #[.int .u8 0, .int .u32 0, .int .u32 0, .int .u32 0, .int .i32 0, .int .i32 0, .int .u32 0, .float .f64 0] 52)).alloc (.cells #[.int .u8 0, .int .u32 0, .int .u32 0, .int .u32 0, .int .i32 0, .int .i32 0, .int .u32 0, .float .f64 0] 52)
  have b4 := (Blk.new w 33 [.int .i64 k, .int .u32 id, .int .u32 nu, .int .u32 ti, .int .i32 px, .int .i32 py, .int .u32 fid, .int .u32 dw, .int .u8 sk, .slice va vn vc, .slice ha hn hc, .int .i32 sz, .int .u32 ck]).keeps ((((((((((Keeps.refl (fun _ => False) (w.alloc (.cells #[.int .i64 k, .int .u32 id, .int .u32 nu, .int .u32 ti, .int .i32 px, .int .i32 py, .int .u32 fid, .int .u32 dw, .int .u8 sk, .slice va vn vc, .slice ha hn hc, .int .i32 sz, .int .u32 ck] 33))).alloc (.cells #[.pointer p] 34)).alloc (.cells #[.int .u32 id] 22)).alloc (.cells #[.int .i32 px, .int .i32 py] 24)).alloc (.cells #[.int .u32 ck] 22)).alloc (.cells #[.pointer p] 34)).alloc (.cells #[.int .u32 fid, .int .u32 dw, .int .u8 sk, .slice va vn vc, .slice ha hn hc, .int .i32 sz] 31)).alloc (.cells #[.int .u32 ck] 22)).alloc (.cells #[.int .u8 0, .int .u32 0, .int .u32 0, .int .u32 0, .int .i32 0, .int .i32 0, .int .u32 0, .float .f64 0] 52)).alloc (.cells #[.int .u8 0, .int .u32 0, .int .u32 0, .int .u32 0, .int .i32 0, .int .i32 0, .int .u32 0, .float .f64 0] 52)) (fun h => h)
  have e4 := Blk.new (((((((((w.alloc (.cells #[.int .i64 k, .int .u32 id, .int .u32 nu, .int .u32 ti, .int .i32 px, .int .i32 py, .int .u32 fid, .int .u32 dw, .int .u8 sk, .slice va vn vc, .slice ha hn hc, .int .i32 sz, .int .u32 ck] 33)).alloc (.cells #[.pointer p] 34)).alloc (.cells #[.int .u32 id] 22)).alloc (.cells #[.int .i32 px, .int .i32 py] 24)).alloc (.cells #[.int .u32 ck] 22)).alloc (.cells #[.pointer p] 34)).alloc (.cells #[.int .u32 fid, .int .u32 dw, .int .u8 sk, .slice va vn vc, .slice ha hn hc, .int .i32 sz] 31)).alloc (.cells #[.int .u32 ck] 22)).alloc (.cells #[.int .u8 0, .int .u32 0, .int .u32 0, .int .u32 0, .int .i32 0, .int .i32 0, .int .u32 0, .float .f64 0] 52)) 52 [.int .u8 0, .int .u32 0, .int .u32 0, .int .u32 0, .int .i32 0, .int .i32 0, .int .u32 0, .float .f64 0]
  generalize ((((((((((w.alloc (.cells #[.int .i64 k, .int .u32 id, .int .u32 nu, .int .u32 ti, .int .i32 px, .int .i32 py, .int .u32 fid, .int .u32 dw, .int .u8 sk, .slice va vn vc, .slice ha hn hc, .int .i32 sz, .int .u32 ck] 33)).alloc (.cells #[.pointer p] 34)).alloc (.cells #[.int .u32 id] 22)).alloc (.cells #[.int .i32 px, .int .i32 py] 24)).alloc (.cells #[.int .u32 ck] 22)).alloc (.cells #[.pointer p] 34)).alloc (.cells #[.int .u32 fid, .int .u32 dw, .int .u8 sk, .slice va vn vc, .slice ha hn hc, .int .i32 sz] 31)).alloc (.cells #[.int .u32 ck] 22)).alloc (.cells #[.int .u8 0, .int .u32 0, .int .u32 0, .int .u32 0, .int .i32 0, .int .i32 0, .int .u32 0, .float .f64 0] 52)).alloc (.cells #[.int .u8 0, .int .u32 0, .int .u32 0, .int .u32 0, .int .i32 0, .int .i32 0, .int .u32 0, .float .f64 0] 52)) = W4 at k4 b4 e4 ⊢
  simp only [World.size_alloc] at e4
  obtain ⟨E, hE⟩ : ∃ E, E = w.heap.size + 1 + 1 + 1 + 1 + 1 + 1 + 1 + 1 + 1 := ⟨_, rfl⟩
  obtain ⟨B, hB⟩ : ∃ B, B = w.heap.size := ⟨_, rfl⟩
  rw [← hE] at e4 ⊢
  rw [← hB] at b4 ⊢
  clear hE hB
  have HN := Lib.hid (fun W (hk : Keeps (fun _ => False) W4 W) => H.out.kd (k4.trans hk))
  have HK4 := Lib.hid k4
  have HB := Lib.hid (And.intro b4 e4)
  have cX := And.intro b4.drew.cell e4.drew.cell
  clear k4 b4 e4
  have HQ := Lib.hid (Keeps.refl (fun _ => False) W4).drew
  have heq := eq_event
  go_region_held3 (fun W' => (∀ i : Nat, W'.cell? ⟨B, i, none⟩ = ([.int .i64 k, .int .u32 id, .int .u32 nu, .int .u32 ti, .int .i32 px, .int .i32 py, .int .u32 fid, .int .u32 dw, .int .u8 sk, .slice va vn vc, .slice ha hn hc, .int .i32 sz, .int .u32 ck] : List Value)[i]?) ∧ (∀ i : Nat, W'.cell? ⟨E, i, none⟩ = ([.int .u8 0, .int .u32 0, .int .u32 0, .int .u32 0, .int .i32 0, .int .i32 0, .int .u32 0, .float .f64 0] : List Value)[i]?)) (first | with_reducible assumption | exact cX) (first
    | (go_at_call 8; refine (forget_no p _ _ _ (HN.out _ HQ.out)).mono ?_; rintro e w1 ⟨rfl, rfl⟩)
    | (go_at_call 9; refine (unfence_no p _ _ _ (HN.out _ HQ.out)).mono ?_; rintro e w1 ⟨rfl, rfl⟩))
  have cB := HB.out.1.drew.cell
  go_wp2_with (first
    | (go_at_call 10; refine (hasdue_no p _ _ (HN.out _ HQ.out)).mono ?_; rintro e w1 ⟨rfl, rfl⟩)
    | (go_at_call 11; refine (hasobject_no p _ _ (HN.out _ HQ.out)).mono ?_; rintro e w1 ⟨rfl, rfl⟩)
    | (go_at_call 12; refine (hasfence_no p _ _ (HN.out _ HQ.out)).mono ?_; rintro e w1 ⟨rfl, rfl⟩)
    | (go_at_call 13; refine (worst_no p _ _ (HN.out _ HQ.out)).mono ?_; rintro e w1 ⟨rfl, rfl⟩)
    | (go_at_call 14; refine (objects_no p _ (HN.out _ HQ.out)).mono ?_; rintro e w1 ⟨rfl, rfl⟩)
    | (go_at_call 15; refine (fences_no p _ (HN.out _ HQ.out)).mono ?_; rintro e w1 ⟨rfl, rfl⟩)
    | (go_at_call 16; refine (dues_no p _ (HN.out _ HQ.out)).mono ?_; rintro e w1 ⟨rfl, rfl⟩))
  go_ret
  exact ⟨rfl, HK4.out.trans HQ.out⟩
set_option maxHeartbeats 4000000 in
set_option maxRecDepth 100000 in
theorem match_nil (k id nu ti px py fid dw sk sz ck : Int) (va ha : Option Addr) (vn vc hn hc : Nat) (w : World) :
    Calls Tryz.prog 3 #[.agg #[.int .i64 k, .int .u32 id, .int .u32 nu, .int .u32 ti, .int .i32 px, .int .i32 py, .int .u32 fid, .int .u32 dw, .int .u8 sk, .slice va vn vc, .slice ha hn hc, .int .i32 sz, .int .u32 ck]] w fun e w' => e = .returned (.bool true) ∧ Below w.heap.size w w' := by
  have b0 := Blk.new w 33 [.int .i64 k, .int .u32 id, .int .u32 nu, .int .u32 ti, .int .i32 px, .int .i32 py, .int .u32 fid, .int .u32 dw, .int .u8 sk, .slice va vn vc, .slice ha hn hc, .int .i32 sz, .int .u32 ck]
  have k0 := (Keeps.refl (fun _ => False) w).alloc (.cells #[.int .i64 k, .int .u32 id, .int .u32 nu, .int .u32 ti, .int .i32 px, .int .i32 py, .int .u32 fid, .int .u32 dw, .int .u8 sk, .slice va vn vc, .slice ha hn hc, .int .i32 sz, .int .u32 ck] 33)
  have HB := Lib.hid b0
  have HK := Lib.hid k0
  clear b0 k0
  go_enter Tryz.func3, Tryz.ntmps3
  go_wp2_with fail
  refine (nothing_any none k id nu ti px py fid dw sk sz ck va ha vn vc hn hc _ (.inl rfl)).mono ?_
  rintro e w1 ⟨rfl, hk⟩
  have cB := (HB.out.keeps hk (fun h => h)).cell
  have cB1 := fun o => ((HB.out.keeps hk (fun h => h)).alloc o).cell
  have HK1 := Lib.hid hk
  have HZ := Lib.hid (Blk.new w1 42 [.int .i64 0, .int .i64 0, .pointer none, .slice none 0 0, .nilIface, .pointer none])
  clear hk
  go_wp2_with fail
  refine (nothing_any _ k id nu ti px py fid dw sk sz ck va ha vn vc hn hc _ (.inr ⟨_, rfl, HZ.out⟩)).mono ?_
  rintro e w2 ⟨rfl, hk⟩
  have HK2 := Lib.hid hk
  clear hk
  go_wp2
  go_ret
  exact ⟨rfl, (((HK.out.trans HK1.out).alloc _).trans HK2.out).below (Nat.le_refl _) (fun _ _ h => h)⟩
end Match
end Go.Proofs.YtppiohmnbffndaaGreatDoor
