/-
  GrA: cells: the small functions at the few places that 'works' comes to.
-/
import Derived.Test.YtppiohmnbffndaaTreeA
import Derived.Test.YtppiohmnbffndaaHeld
import Derived.Deep.RegionHeld3
import Derived.Shelf.Abstract
namespace Go.Proofs.Ytppiohmnbffndaa
open Go.RowKit Go.Shelf
set_option linter.unusedVariables false
set_option linter.unusedSimpArgs false
attribute [local go_sem] Oper.semAt_some
namespace Gr
open Mem
def Gave (v : Value) (w : World) (e : Ending) (w' : World) : Prop := e = .returned v ∧ Keeps (fun _ => False) w w'
theorem size_yes (w : World) : Calls Try.prog 45 #[.int .i64 10] w fun e w' => e = .returned (.bool true) ∧ w = w' := by
  go_enter Try.func45, Try.ntmps45
  go_wp2
  go_ret
  exact ⟨rfl, rfl⟩
theorem in_yes (x y : Int) (w : World) (hx : 0 ≤ x) (hy : 0 ≤ y) (hx2 : x ≤ 100) (hy2 : y ≤ 100) : Calls Try.prog 54 #[.agg #[.int .i32 x, .int .i32 y]] w fun e w' => e = .returned (.bool true) ∧ w.alloc (.cells #[.int .i32 x, .int .i32 y] 24) = w' := by
  have h1 : -1073741823 ≤ x := by omega
  have h2 : x ≤ 1073741823 := by omega
  have h3 : -1073741823 ≤ y := by omega
  have h4 : y ≤ 1073741823 := by omega
  clear hx hy hx2 hy2
  go_enter Try.func54, Try.ntmps54
  go_wp2
  go_ret
  exact ⟨rfl, rfl⟩
theorem pin_yes (x y : Int) (w : World) (hx : 0 ≤ x) (hy : 0 ≤ y) (hx2 : x ≤ 100) (hy2 : y ≤ 100) : Calls Try.prog 29 #[.agg #[.int .i32 x, .int .i32 y]] w fun e w' => e = .returned (.bool true) ∧ w.alloc (.cells #[.int .i32 x, .int .i32 y] 24) = w' := by
  have h1 : -1073741823 ≤ x := by omega
  have h2 : x ≤ 1073741823 := by omega
  have h3 : -1073741823 ≤ y := by omega
  have h4 : y ≤ 1073741823 := by omega
  clear hx hy hx2 hy2
  go_enter Try.func29, Try.ntmps29
  go_wp2
  go_ret
  exact ⟨rfl, rfl⟩
theorem floor_yes (n d : Int) (w : World) (hn : 0 ≤ n) (hn2 : n ≤ 1000000) (hd : 1 ≤ d) (hd2 : d ≤ 1000000) : Calls Try.prog 62 #[.int .i64 n, .int .i64 d] w fun e w' => e = .returned (.int .i64 (n / d)) ∧ w = w' := by
  have h0 : ¬ d = 0 := by omega
  have h1 : 0 ≤ n % d := Int.emod_nonneg _ h0
  have h2 : n % d < d := Int.emod_lt_of_pos _ (by omega)
  have h3 : 0 ≤ n / d := Int.ediv_nonneg hn (by omega)
  have h4 : n / d ≤ n := Int.ediv_le_self _ hn
  go_enter Try.func62, Try.ntmps62
  go_wp2
  go_ret
  exact ⟨rfl, rfl⟩
theorem box_yes (w : World) : Calls Try.prog 46 #[.agg #[.int .i32 0, .int .i32 0, .int .i32 3, .int .i32 3]] w (fun e w' => e = .returned (.bool true) ∧ (((w.alloc (.cells #[.int .i32 0, .int .i32 0, .int .i32 3, .int .i32 3] 37)).alloc (.cells #[.int .i32 0, .int .i32 0] 24)).alloc (.cells #[.int .i32 3, .int .i32 3] 24)) = w') := by
  go_enter Try.func46, Try.ntmps46
  go_wp2_with (go_at_call 54; refine (in_yes _ _ _ (by decide) (by decide) (by decide) (by decide)).mono ?_; rintro e w1 ⟨rfl, rfl⟩)
  go_ret
  exact ⟨rfl, rfl⟩
theorem right_yes (w : World) : Calls Try.prog 24 #[.agg #[.int .i32 0, .int .i32 0, .int .i32 3, .int .i32 3]] w (fun e w' => e = .returned (.bool true) ∧ (((w.alloc (.cells #[.int .i32 0, .int .i32 0, .int .i32 3, .int .i32 3] 37)).alloc (.cells #[.int .i32 0, .int .i32 0] 24)).alloc (.cells #[.int .i32 3, .int .i32 3] 24)) = w') := by
  go_enter Try.func24, Try.ntmps24
  go_wp2_with (go_at_call 29; refine (pin_yes _ _ _ (by decide) (by decide) (by decide) (by decide)).mono ?_; rintro e w1 ⟨rfl, rfl⟩)
  go_ret
  exact ⟨rfl, rfl⟩
set_option maxHeartbeats 4000000 in
theorem of_yes (x y : Int) (w : World) (hx : 0 ≤ x) (hy : 0 ≤ y) (hx2 : x ≤ 100) (hy2 : y ≤ 100) : Calls Try.prog 47 #[.agg #[.int .i32 x, .int .i32 y], .int .i64 10] w (fun e w' => e = .returned (.agg #[.int .i32 (x / 10), .int .i32 (y / 10)]) ∧ ((w.alloc (.cells #[.int .i32 x, .int .i32 y] 24)).alloc (.cells #[.int .i32 (x / 10), .int .i32 (y / 10)] 73)).drew = w') := by
  have h1 : IntKind.i32.wrap (x / 10) = x / 10 := IntWalk.i32_in _ (by omega)
  have h2 : IntKind.i32.wrap (y / 10) = y / 10 := IntWalk.i32_in _ (by omega)
  have cX := (Blk.new w 24 [.int .i32 x, .int .i32 y])
  have c1 := fun o => (cX.alloc o).drew.cell
  have h3 : IntKind.i64.wrap x = x := IntWalk.i64_in _ (by omega)
  have h4 : IntKind.i64.wrap y = y := IntWalk.i64_in _ (by omega)
  clear cX
  go_enter Try.func47, Try.ntmps47
  go_wp2
  go_region_held3 (fun W => ∀ i : Nat, W.cell? ⟨w.heap.size, i, none⟩ = ([.int .i32 x, .int .i32 y] : List Value)[i]?) (first | with_reducible assumption | exact c1 _) (first
    | (go_at_call 62; refine (floor_yes _ _ _ (by omega) (by omega) (by omega) (by omega)).mono ?_; rintro e w1 ⟨rfl, rfl⟩))
  all_goals
    go_wp2
    exact bodyPost_ret (results_cell_row rfl _ _ (w.heap.size + 1) 73 #[.int .i32 (x / 10), .int .i32 (y / 10)] _ _ rfl (by have := (Blk.new (w.alloc (.cells #[.int .i32 x, .int .i32 y] 24)) 73 [.int .i32 (x / 10), .int .i32 (y / 10)]).drew; simpa [Blk] using this) Try.underlying73 rfl (by kernel_rfl)) rfl ⟨rfl, rfl⟩
theorem of00 (w : World) : Calls Try.prog 47 #[.agg #[.int .i32 0, .int .i32 0], .int .i64 10] w (fun e w' => e = .returned (.agg #[.int .i32 0, .int .i32 0]) ∧ ((w.alloc (.cells #[.int .i32 0, .int .i32 0] 24)).alloc (.cells #[.int .i32 0, .int .i32 0] 73)).drew = w') := of_yes 0 0 w (by decide) (by decide) (by decide) (by decide)
theorem of33 (w : World) : Calls Try.prog 47 #[.agg #[.int .i32 3, .int .i32 3], .int .i64 10] w (fun e w' => e = .returned (.agg #[.int .i32 0, .int .i32 0]) ∧ ((w.alloc (.cells #[.int .i32 3, .int .i32 3] 24)).alloc (.cells #[.int .i32 0, .int .i32 0] 73)).drew = w') := of_yes 3 3 w (by decide) (by decide) (by decide) (by decide)
theorem of503 (w : World) : Calls Try.prog 47 #[.agg #[.int .i32 50, .int .i32 3], .int .i64 10] w (fun e w' => e = .returned (.agg #[.int .i32 5, .int .i32 0]) ∧ ((w.alloc (.cells #[.int .i32 50, .int .i32 3] 24)).alloc (.cells #[.int .i32 5, .int .i32 0] 73)).drew = w') := of_yes 50 3 w (by decide) (by decide) (by decide) (by decide)
set_option maxHeartbeats 4000000 in
theorem count_yes (w : World) : Calls Try.prog 25 #[.agg #[.int .i32 0, .int .i32 0, .int .i32 3, .int .i32 3], .int .i64 10] w (Gave (.int .i64 1) w) := by
  have HB := Lib.hid (Blk.new w 37 [.int .i32 0, .int .i32 0, .int .i32 3, .int .i32 3])
  have HK := Lib.hid (Keeps.refl (fun _ => False) (w.alloc (.cells #[.int .i32 0, .int .i32 0, .int .i32 3, .int .i32 3] 37)))
  go_enter Try.func25, Try.ntmps25
  go_wp2_with (first
    | (go_at_call 45; refine (size_yes _).mono ?_; rintro e w1 ⟨rfl, rfl⟩)
    | (go_at_call 46; refine (box_yes _).mono ?_; rintro e w1 ⟨rfl, rfl⟩))
  go_region_held3 (fun W => ∀ i : Nat, W.cell? ⟨w.heap.size, i, none⟩ = ([.int .i32 0, .int .i32 0, .int .i32 3, .int .i32 3] : List Value)[i]?) (first | with_reducible assumption | exact (HB.out.keeps (S := fun _ => False) (by (repeat (first | exact HK.out | refine Keeps.alloc ?_ _ | refine Keeps.drew ?_ | (refine Keeps.setCell ?_ (fun h => ?_) _; rotate_left; (exfalso; have hz := HK.out.size; simp at h hz; omega))))) (fun h => h)).cell) (first
    | (go_at_call 47; (first | (with_reducible refine (of00 _).mono ?_) | (with_reducible refine (of33 _).mono ?_)); rintro e w2 ⟨rfl, rfl⟩))
  all_goals
    go_wp2
    go_ret
    exact ⟨rfl, by repeat (first | exact Keeps.refl _ _ | refine Keeps.alloc ?_ _ | refine Keeps.drew ?_)⟩
end Gr
end Go.Proofs.Ytppiohmnbffndaa
