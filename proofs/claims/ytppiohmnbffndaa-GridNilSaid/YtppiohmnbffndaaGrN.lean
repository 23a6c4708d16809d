/-
  GrN: GridNil: the walk of the law.
-/
import Derived.Test.YtppiohmnbffndaaGrM
namespace Go.Proofs.Ytppiohmnbffndaa
open Go.RowKit Go.Shelf
set_option linter.unusedVariables false
set_option linter.unusedSimpArgs false
attribute [local go_sem] Oper.semAt_some
namespace Gr
open Mem Tree
theorem nog_nil (w : World) : NoG w none := .inl rfl
theorem nog_zero {w : World} {b : Nat} (h : Blk w b 65 [.int .i64 0, .map none, .map none, .map none]) : NoG w (some ⟨b, 0, none⟩) := .inr ⟨b, rfl, h⟩
set_option maxHeartbeats 4000000 in
set_option maxRecDepth 100000 in
theorem nil_any (kind id x0 y0 x1 y1 px py qx qy : Int) (w : World) :
    Calls Try.prog 5 #[.agg #[.int .i64 kind, .int .u32 id, .int .i32 x0, .int .i32 y0, .int .i32 x1, .int .i32 y1, .int .i32 px, .int .i32 py, .int .i32 qx, .int .i32 qy]] w fun e w' => e = .returned (.bool true) ∧ Below w.heap.size w w' := by
  have b1 := Blk.new w 52 [.int .i64 kind, .int .u32 id, .int .i32 x0, .int .i32 y0, .int .i32 x1, .int .i32 y1, .int .i32 px, .int .i32 py, .int .i32 qx, .int .i32 qy]
  have k1 : Keeps (fun _ => False) w (w.alloc (.cells #[.int .i64 kind, .int .u32 id, .int .i32 x0, .int .i32 y0, .int .i32 x1, .int .i32 y1, .int .i32 px, .int .i32 py, .int .i32 qx, .int .i32 qy] 52)) := (Keeps.refl _ w).alloc _
  have HB := Lib.hid (And.intro b1 k1)
  have cS := b1.cell
  clear b1 k1
  go_enter Try.func5, Try.ntmps5
  go_wp2_with (first
    | (go_at_call 22; (with_reducible refine (empty_any none _ _ _ _ _ _ _ _ _ _ _ (nog_nil _)).mono ?_); rintro e w2 ⟨rfl, hk2⟩; have HK2 := Lib.hid (HB.out.2.trans hk2); have hz2 := hk2.size; have cS2 := ((HB.out.1.keeps hk2 (fun h => h)).alloc (.cells #[.int .i64 0, .map none, .map none, .map none] 65)).cell; clear hk2 cS)
    | (go_at_call 22; (with_reducible refine (empty_any (some ⟨w2.heap.size, 0, none⟩) _ _ _ _ _ _ _ _ _ _ _ (nog_zero (Blk.new w2 65 [.int .i64 0, .map none, .map none, .map none]))).mono ?_); rintro e w3 ⟨rfl, hk3⟩; have HK3 := Lib.hid ((HK2.out.alloc _).trans hk3); clear hk3 cS2)
    | (go_at_call 8; (with_reducible refine (works_yes _).mono ?_); rintro e w4 ⟨rfl, hk4⟩; have HK4 := Lib.hid (HK3.out.trans hk4); clear hk4))
  go_ret
  exact ⟨rfl, HK4.out.below (Nat.le_refl _) (fun _ _ h => h)⟩
end Gr
end Go.Proofs.Ytppiohmnbffndaa
