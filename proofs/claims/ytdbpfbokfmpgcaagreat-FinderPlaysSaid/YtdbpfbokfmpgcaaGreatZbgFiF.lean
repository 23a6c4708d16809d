/-
FiF: the finder: its closures as they are made; small laws of the statement's own functions.
-/
import Derived.Test.YtdbpfbokfmpgcaaGreatZbfFiAFiBFiC
import Derived.Test.YtdbpfbokfmpgcaaGreatZajGsA
set_option linter.unusedVariables false
set_option linter.unusedSimpArgs false
set_option linter.ambiguousOpen false
attribute [local go_sem] Go.Oper.semAt_some
namespace Go.Proofs.YtdbpfbokfmpgcaaGreat
theorem ZBQ {p : Prop} (h : p := by rw [← hw]; (repeat (first | exact Keeps.refl _ _ | refine Keeps.alloc ?_ _ | refine Keeps.drew ?_))) : p := h
open Go.RowKit Go.Shelf
namespace Fi
open Mem Gr Gs
theorem keys_t (r : Nat) (w : World) : Calls Tryz.prog 76 #[.map (some r)] w fun e w' => e = .returned (.func (.func 83) #[] #[.pointer (some ⟨w.heap.size, 0, none⟩)]) ∧ w.alloc (.cells #[.map (some r)] 60) = w' := by
 go_enter Tryz.func76, Tryz.ntmps76
 go_wp2
 go_ret
 exact ⟨rfl, rfl⟩
theorem covers_t (px py : Int) (w : World) : Calls Tryz.prog 77 #[.agg #[.int .i32 px, .int .i32 py]] w fun e w' => e = .returned (.func (.func 84) #[] #[.pointer (some ⟨w.heap.size, 0, none⟩)]) ∧ w.alloc (.cells #[.int .i32 px, .int .i32 py] 37) = w' := by
 go_enter Tryz.func77, Tryz.ntmps77
 go_wp2
 go_ret
 exact ⟨rfl, rfl⟩
theorem meets_off (px py qx qy : Int) (hm : ¬ (On px py ∧ On qx qy)) (w : World) : Calls Tryz.prog 78 #[.agg #[.int .i32 px, .int .i32 py], .agg #[.int .i32 qx, .int .i32 qy]] w fun e w' => e = .returned (.func (.func 86) #[] #[]) ∧ Keeps (fun _ => False) w w' := by
 have z1 := pin_t px py
 have z2 := pin_t qx qy
 by_cases hp : On px py
 ·have hq : ¬ On qx qy := fun h => hm ⟨hp, h⟩
  simp only [hp, hq, decide_true, decide_false] at z1 z2
  clear hm hp hq
  go_enter Tryz.func78, Tryz.ntmps78
  go_wp2_with (first | (go_at_call 85; (with_reducible refine (z1 _).mono ?_); rintro e w1 ⟨rfl, rfl⟩) | (go_at_call 85; (with_reducible refine (z2 _).mono ?_); rintro e w1 ⟨rfl, hw⟩; have HK1 := Lib.hid (show Keeps (fun _ => False) w w1 from ZBQ); clear hw))
  go_ret
  exact ⟨rfl, HK1.out⟩
 ·simp only [hp, decide_false] at z1
  clear hm hp z2
  go_enter Tryz.func78, Tryz.ntmps78
  go_wp2_with (first | (go_at_call 85; (with_reducible refine (z1 _).mono ?_); rintro e w1 ⟨rfl, hw⟩; have HK1 := Lib.hid (show Keeps (fun _ => False) w w1 from ZBQ); clear hw))
  go_ret
  exact ⟨rfl, HK1.out⟩
theorem meets_on (px py qx qy : Int) (hp : On px py) (hq : On qx qy) (w : World) : Calls Tryz.prog 78 #[.agg #[.int .i32 px, .int .i32 py], .agg #[.int .i32 qx, .int .i32 qy]] w fun e w' => ∃ PB QB, e = .returned (.func (.func 87) #[] #[.pointer (some ⟨PB, 0, none⟩), .pointer (some ⟨QB, 0, none⟩)]) ∧ Keeps (fun _ => False) w w' ∧ Blk w' PB 37 [.int .i32 px, .int .i32 py] ∧ Blk w' QB 37 [.int .i32 qx, .int .i32 qy] := by
 have z1 := pin_t px py
 have z2 := pin_t qx qy
 simp only [hp, hq, decide_true] at z1 z2
 have bP := (Blk.new w 37 [.int .i32 px, .int .i32 py]).alloc (.cells #[.int .i32 qx, .int .i32 qy] 37)
 have bQ := Blk.new (w.alloc (.cells #[.int .i32 px, .int .i32 py] 37)) 37 [.int .i32 qx, .int .i32 qy]
 simp only [World.size_alloc] at bQ
 have HPQ := Lib.hid (And.intro bP bQ)
 clear hp hq bP bQ
 go_enter Tryz.func78, Tryz.ntmps78
 go_wp2_with (first | (go_at_call 85; (with_reducible refine (z1 _).mono ?_); rintro e w1 ⟨rfl, rfl⟩) | (go_at_call 85; (with_reducible refine (z2 _).mono ?_); rintro e w4 ⟨rfl, hw⟩; have HK4 := Lib.hid (show Keeps (fun _ => False) ((w.alloc (.cells #[.int .i32 px, .int .i32 py] 37)).alloc (.cells #[.int .i32 qx, .int .i32 qy] 37)) w4 from ZBQ); clear hw))
 go_ret
 exact ⟨w.heap.size, w.heap.size + 1, rfl, Keeps.trans Z4 HK4.out, HPQ.out.1.keeps HK4.out (fun h => h), HPQ.out.2.keeps HK4.out (fun h => h)⟩
end Fi
end Go.Proofs.YtdbpfbokfmpgcaaGreat
