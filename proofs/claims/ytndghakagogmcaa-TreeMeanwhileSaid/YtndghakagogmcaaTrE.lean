/-
  TrE: even, one way.
-/
import Derived.Test.YtndghakagogmcaaTrD
namespace Go.Proofs.Ytndghakagogmcaa
open Go.RowKit
set_option linter.unusedVariables false
set_option linter.unusedSimpArgs false
attribute [local go_sem] Oper.semAt_some
namespace Tree
open Mem BT
set_option maxHeartbeats 4000000 in
set_option maxRecDepth 100000 in
theorem even_flat (b id : Nat) (bx : Bx) (l r : BT) (w : World) (h : Nd 800 w b id bx l r) (h1 : ¬ dp l - dp r = 2) (h2 : ¬ dp l - dp r = -2) :
    Calls Try.prog 58 #[.pointer (some ⟨b, 0, none⟩)] w (Made (mk' b id bx l r) (fun k => k ∈ b :: (blocks l ++ blocks r)) w) := by
  obtain ⟨al, d, hB⟩ := h.blk
  have nl := fine_dp h.fl
  have nr := fine_dp h.fr
  have hdl := h.dl
  have hdr := h.dr
  have hwr : IntKind.i64.wrap (dp l - dp r) = dp l - dp r := IntWalk.i64_in _ (by omega)
  have HDL := Lib.hid (depth_any l w.drew (h.isl.kd (Keeps.refl _ w).drew))
  have HDR := Lib.hid (depth_any r w.drew (h.isr.kd (Keeps.refl _ w).drew))
  have HS := Lib.hid ((summed_t b id bx l r w.drew ((h.mono (by omega)).kd (Keeps.refl _ w).drew)).mono fun e w' hm => Made.after (T := fun k => k ∈ b :: (blocks l ++ blocks r)) (w0 := w) hm (Keeps.refl _ w).drew (by rintro k rfl; simp))
  have cB := hB.cell
  unfold ncells at cB
  generalize hpl : ptr l = pl at *
  generalize hpr : ptr r = pr at *
  generalize hdl : dp l = dl at *
  generalize hdr : dp r = dr at *
  clear hB h
  go_enter Try.func58, Try.ntmps58
  go_wp2
  go_region_held3 (fun W => ∀ i : Nat, W.cell? ⟨b, i, none⟩ = ([.int .u32 (id : Int), .int .i32 bx.x0, .int .i32 bx.y0, .int .i32 bx.x1, .int .i32 bx.y1, .int .i32 al.x0, .int .i32 al.y0, .int .i32 al.x1, .int .i32 al.y1, .pointer pl, .pointer pr, .int .i64 d] : List Value)[i]?) (first | with_reducible assumption | (repeat (first | with_reducible assumption | with_reducible refine all_drew ?_))) (first | (go_at_call 52; (first | refine HDL.out.mono ?_ | refine HDR.out.mono ?_); rintro e w1 ⟨rfl, rfl⟩))
  go_wp2_with (go_at_call 57; (with_reducible refine HS.out.mono ?_); rintro e w4 ⟨rfl, hk4, hT4⟩)
  go_ret
  exact ⟨rfl, hk4, hT4⟩
end Tree
end Go.Proofs.Ytndghakagogmcaa
