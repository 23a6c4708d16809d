/-
FiD: the finder: what meets a way, its bounds apart.
-/
import Derived.Test.YtdbpfbokfmpgcaaGreatZbfFiAFiBFiC
set_option linter.unusedVariables false
set_option linter.unusedSimpArgs false
set_option linter.ambiguousOpen false
set_option maxHeartbeats 16000000
attribute [local go_sem] Go.Oper.semAt_some
namespace Go.Proofs.YtdbpfbokfmpgcaaGreat
theorem ZF {p : Prop} (h : p := by
 clear hn
 (go_enter Tryz.func87, Tryz.ntmps87; go_wp2; go_ret; exact ⟨rfl, ZBG⟩)) : p := h
theorem ZZ {p : Prop} (h : p := by
 have h4 : py > b.y1 := by omega
 have d4 : decide (py > b.y1) = true := decide_eq_true h4
 have d4' : decide (b.y1 < py) = true := decide_eq_true h4
 exact ZF) : p := h
theorem Zc {p : Prop} (h : p := by
 by_cases h3 : py < b.y0
 ·have d3 : decide (py < b.y0) = true := decide_eq_true h3
  exact ZF
 ·have d3 : decide (py < b.y0) = false := decide_eq_false h3
  have h4 : qy > b.y1 := by omega
  have d4 : decide (qy > b.y1) = true := decide_eq_true h4
  have d4' : decide (b.y1 < qy) = true := decide_eq_true h4
  exact ZF) : p := h
theorem Zl {p : Prop} (h : p := by
 by_cases h2 : px > b.x1
 ·have d2 : decide (px > b.x1) = true := decide_eq_true h2
  have d2' : decide (b.x1 < px) = true := decide_eq_true h2
  exact ZF
 ·have d2 : decide (px > b.x1) = false := decide_eq_false h2
  have d2' : decide (b.x1 < px) = false := decide_eq_false h2
  by_cases h3 : qy < b.y0
  ·have d3 : decide (qy < b.y0) = true := decide_eq_true h3
   exact ZF
  ·have d3 : decide (qy < b.y0) = false := decide_eq_false h3
   exact ZZ) : p := h
theorem Zm {p : Prop} (h : p := by
 by_cases h2 : px > b.x1
 ·have d2 : decide (px > b.x1) = true := decide_eq_true h2
  have d2' : decide (b.x1 < px) = true := decide_eq_true h2
  exact ZF
 ·have d2 : decide (px > b.x1) = false := decide_eq_false h2
  have d2' : decide (b.x1 < px) = false := decide_eq_false h2
  by_cases h3 : py < b.y0
  ·have d3 : decide (py < b.y0) = true := decide_eq_true h3
   exact ZF
  ·have d3 : decide (py < b.y0) = false := decide_eq_false h3
   exact ZZ) : p := h
theorem Zz {p : Prop} (h : p := by
 by_cases h2 : px > b.x1
 ·have d2 : decide (px > b.x1) = true := decide_eq_true h2
  have d2' : decide (b.x1 < px) = true := decide_eq_true h2
  exact ZF
 ·have d2 : decide (px > b.x1) = false := decide_eq_false h2
  have d2' : decide (b.x1 < px) = false := decide_eq_false h2
  exact Zc) : p := h
open Go.RowKit Go.Shelf
namespace Fi
open Mem Gr Gs
def overP (px py qx qy : Int) (b : Bx) : Prop := b.x0 ≤ max px qx ∧ min px qx ≤ b.x1 ∧ b.y0 ≤ max py qy ∧ min py qy ≤ b.y1
instance (px py qx qy : Int) (b : Bx) : Decidable (overP px py qx qy b) := by unfold overP; infer_instance
theorem meets2_no_ll (px py qx qy : Int) (b : Bx) (PB QB : Nat) (w : World) (hP : Blk w PB 37 [.int .i32 px, .int .i32 py]) (hQ : Blk w QB 37 [.int .i32 qx, .int .i32 qy]) (hx : px < qx) (hy : py < qy) (hn : ¬ overP px py qx qy b) :
 Calls Tryz.prog 87 #[.agg #[.int .i32 b.x0, .int .i32 b.y0, .int .i32 b.x1, .int .i32 b.y1], .pointer (some ⟨PB, 0, none⟩), .pointer (some ⟨QB, 0, none⟩)] w fun e w' => e = .returned (.bool false) ∧ Keeps (fun _ => False) w w' := by
 have cP := (hP.alloc (.cells #[.int .i32 b.x0, .int .i32 b.y0, .int .i32 b.x1, .int .i32 b.y1] 39)).cell
 have cQ := (hQ.alloc (.cells #[.int .i32 b.x0, .int .i32 b.y0, .int .i32 b.x1, .int .i32 b.y1] 39)).cell
 clear hP hQ
 unfold overP at hn
 have dx : decide (px < qx) = true := decide_eq_true hx
 have nx : ¬ qx < px := by omega
 have dy : decide (py < qy) = true := decide_eq_true hy
 have ny : ¬ qy < py := by omega
 by_cases h1 : qx < b.x0
 ·have d1 : decide (qx < b.x0) = true := decide_eq_true h1
  exact ZF
 ·have d1 : decide (qx < b.x0) = false := decide_eq_false h1
  exact Zl
theorem meets2_no_lg (px py qx qy : Int) (b : Bx) (PB QB : Nat) (w : World) (hP : Blk w PB 37 [.int .i32 px, .int .i32 py]) (hQ : Blk w QB 37 [.int .i32 qx, .int .i32 qy]) (hx : px < qx) (hy : qy < py) (hn : ¬ overP px py qx qy b) :
 Calls Tryz.prog 87 #[.agg #[.int .i32 b.x0, .int .i32 b.y0, .int .i32 b.x1, .int .i32 b.y1], .pointer (some ⟨PB, 0, none⟩), .pointer (some ⟨QB, 0, none⟩)] w fun e w' => e = .returned (.bool false) ∧ Keeps (fun _ => False) w w' := by
 have cP := (hP.alloc (.cells #[.int .i32 b.x0, .int .i32 b.y0, .int .i32 b.x1, .int .i32 b.y1] 39)).cell
 have cQ := (hQ.alloc (.cells #[.int .i32 b.x0, .int .i32 b.y0, .int .i32 b.x1, .int .i32 b.y1] 39)).cell
 clear hP hQ
 unfold overP at hn
 have dx : decide (px < qx) = true := decide_eq_true hx
 have nx : ¬ qx < px := by omega
 have dy : decide (qy < py) = true := decide_eq_true hy
 have ny : ¬ py < qy := by omega
 by_cases h1 : qx < b.x0
 ·have d1 : decide (qx < b.x0) = true := decide_eq_true h1
  exact ZF
 ·have d1 : decide (qx < b.x0) = false := decide_eq_false h1
  exact Zz
theorem meets2_no_le (px py qx qy : Int) (b : Bx) (PB QB : Nat) (w : World) (hP : Blk w PB 37 [.int .i32 px, .int .i32 py]) (hQ : Blk w QB 37 [.int .i32 qx, .int .i32 qy]) (hx : px < qx) (hy : py = qy) (hn : ¬ overP px py qx qy b) :
 Calls Tryz.prog 87 #[.agg #[.int .i32 b.x0, .int .i32 b.y0, .int .i32 b.x1, .int .i32 b.y1], .pointer (some ⟨PB, 0, none⟩), .pointer (some ⟨QB, 0, none⟩)] w fun e w' => e = .returned (.bool false) ∧ Keeps (fun _ => False) w w' := by
 have cP := (hP.alloc (.cells #[.int .i32 b.x0, .int .i32 b.y0, .int .i32 b.x1, .int .i32 b.y1] 39)).cell
 have cQ := (hQ.alloc (.cells #[.int .i32 b.x0, .int .i32 b.y0, .int .i32 b.x1, .int .i32 b.y1] 39)).cell
 clear hP hQ
 unfold overP at hn
 have dx : decide (px < qx) = true := decide_eq_true hx
 have nx : ¬ qx < px := by omega
 subst hy
 by_cases h1 : qx < b.x0
 ·have d1 : decide (qx < b.x0) = true := decide_eq_true h1
  exact ZF
 ·have d1 : decide (qx < b.x0) = false := decide_eq_false h1
  exact Zm
theorem meets2_no_gl (px py qx qy : Int) (b : Bx) (PB QB : Nat) (w : World) (hP : Blk w PB 37 [.int .i32 px, .int .i32 py]) (hQ : Blk w QB 37 [.int .i32 qx, .int .i32 qy]) (hx : qx < px) (hy : py < qy) (hn : ¬ overP px py qx qy b) :
 Calls Tryz.prog 87 #[.agg #[.int .i32 b.x0, .int .i32 b.y0, .int .i32 b.x1, .int .i32 b.y1], .pointer (some ⟨PB, 0, none⟩), .pointer (some ⟨QB, 0, none⟩)] w fun e w' => e = .returned (.bool false) ∧ Keeps (fun _ => False) w w' := by
 have cP := (hP.alloc (.cells #[.int .i32 b.x0, .int .i32 b.y0, .int .i32 b.x1, .int .i32 b.y1] 39)).cell
 have cQ := (hQ.alloc (.cells #[.int .i32 b.x0, .int .i32 b.y0, .int .i32 b.x1, .int .i32 b.y1] 39)).cell
 clear hP hQ
 unfold overP at hn
 have dx : decide (qx < px) = true := decide_eq_true hx
 have nx : ¬ px < qx := by omega
 have dy : decide (py < qy) = true := decide_eq_true hy
 have ny : ¬ qy < py := by omega
 by_cases h1 : px < b.x0
 ·have d1 : decide (px < b.x0) = true := decide_eq_true h1
  exact ZF
 ·have d1 : decide (px < b.x0) = false := decide_eq_false h1
  by_cases h2 : qx > b.x1
  ·have d2 : decide (qx > b.x1) = true := decide_eq_true h2
   have d2' : decide (b.x1 < qx) = true := decide_eq_true h2
   exact ZF
  ·have d2 : decide (qx > b.x1) = false := decide_eq_false h2
   have d2' : decide (b.x1 < qx) = false := decide_eq_false h2
   by_cases h3 : qy < b.y0
   ·have d3 : decide (qy < b.y0) = true := decide_eq_true h3
    exact ZF
   ·have d3 : decide (qy < b.y0) = false := decide_eq_false h3
    exact ZZ
theorem meets2_no_gg (px py qx qy : Int) (b : Bx) (PB QB : Nat) (w : World) (hP : Blk w PB 37 [.int .i32 px, .int .i32 py]) (hQ : Blk w QB 37 [.int .i32 qx, .int .i32 qy]) (hx : qx < px) (hy : qy < py) (hn : ¬ overP px py qx qy b) :
 Calls Tryz.prog 87 #[.agg #[.int .i32 b.x0, .int .i32 b.y0, .int .i32 b.x1, .int .i32 b.y1], .pointer (some ⟨PB, 0, none⟩), .pointer (some ⟨QB, 0, none⟩)] w fun e w' => e = .returned (.bool false) ∧ Keeps (fun _ => False) w w' := by
 have cP := (hP.alloc (.cells #[.int .i32 b.x0, .int .i32 b.y0, .int .i32 b.x1, .int .i32 b.y1] 39)).cell
 have cQ := (hQ.alloc (.cells #[.int .i32 b.x0, .int .i32 b.y0, .int .i32 b.x1, .int .i32 b.y1] 39)).cell
 clear hP hQ
 unfold overP at hn
 have dx : decide (qx < px) = true := decide_eq_true hx
 have nx : ¬ px < qx := by omega
 have dy : decide (qy < py) = true := decide_eq_true hy
 have ny : ¬ py < qy := by omega
 by_cases h1 : px < b.x0
 ·have d1 : decide (px < b.x0) = true := decide_eq_true h1
  exact ZF
 ·have d1 : decide (px < b.x0) = false := decide_eq_false h1
  by_cases h2 : qx > b.x1
  ·have d2 : decide (qx > b.x1) = true := decide_eq_true h2
   have d2' : decide (b.x1 < qx) = true := decide_eq_true h2
   exact ZF
  ·have d2 : decide (qx > b.x1) = false := decide_eq_false h2
   have d2' : decide (b.x1 < qx) = false := decide_eq_false h2
   exact Zc
theorem meets2_no_ge (px py qx qy : Int) (b : Bx) (PB QB : Nat) (w : World) (hP : Blk w PB 37 [.int .i32 px, .int .i32 py]) (hQ : Blk w QB 37 [.int .i32 qx, .int .i32 qy]) (hx : qx < px) (hy : py = qy) (hn : ¬ overP px py qx qy b) :
 Calls Tryz.prog 87 #[.agg #[.int .i32 b.x0, .int .i32 b.y0, .int .i32 b.x1, .int .i32 b.y1], .pointer (some ⟨PB, 0, none⟩), .pointer (some ⟨QB, 0, none⟩)] w fun e w' => e = .returned (.bool false) ∧ Keeps (fun _ => False) w w' := by
 have cP := (hP.alloc (.cells #[.int .i32 b.x0, .int .i32 b.y0, .int .i32 b.x1, .int .i32 b.y1] 39)).cell
 have cQ := (hQ.alloc (.cells #[.int .i32 b.x0, .int .i32 b.y0, .int .i32 b.x1, .int .i32 b.y1] 39)).cell
 clear hP hQ
 unfold overP at hn
 have dx : decide (qx < px) = true := decide_eq_true hx
 have nx : ¬ px < qx := by omega
 subst hy
 by_cases h1 : px < b.x0
 ·have d1 : decide (px < b.x0) = true := decide_eq_true h1
  exact ZF
 ·have d1 : decide (px < b.x0) = false := decide_eq_false h1
  by_cases h2 : qx > b.x1
  ·have d2 : decide (qx > b.x1) = true := decide_eq_true h2
   have d2' : decide (b.x1 < qx) = true := decide_eq_true h2
   exact ZF
  ·have d2 : decide (qx > b.x1) = false := decide_eq_false h2
   have d2' : decide (b.x1 < qx) = false := decide_eq_false h2
   by_cases h3 : py < b.y0
   ·have d3 : decide (py < b.y0) = true := decide_eq_true h3
    exact ZF
   ·have d3 : decide (py < b.y0) = false := decide_eq_false h3
    exact ZZ
theorem meets2_no_el (px py qx qy : Int) (b : Bx) (PB QB : Nat) (w : World) (hP : Blk w PB 37 [.int .i32 px, .int .i32 py]) (hQ : Blk w QB 37 [.int .i32 qx, .int .i32 qy]) (hx : px = qx) (hy : py < qy) (hn : ¬ overP px py qx qy b) :
 Calls Tryz.prog 87 #[.agg #[.int .i32 b.x0, .int .i32 b.y0, .int .i32 b.x1, .int .i32 b.y1], .pointer (some ⟨PB, 0, none⟩), .pointer (some ⟨QB, 0, none⟩)] w fun e w' => e = .returned (.bool false) ∧ Keeps (fun _ => False) w w' := by
 have cP := (hP.alloc (.cells #[.int .i32 b.x0, .int .i32 b.y0, .int .i32 b.x1, .int .i32 b.y1] 39)).cell
 have cQ := (hQ.alloc (.cells #[.int .i32 b.x0, .int .i32 b.y0, .int .i32 b.x1, .int .i32 b.y1] 39)).cell
 clear hP hQ
 unfold overP at hn
 subst hx
 have dy : decide (py < qy) = true := decide_eq_true hy
 have ny : ¬ qy < py := by omega
 by_cases h1 : px < b.x0
 ·have d1 : decide (px < b.x0) = true := decide_eq_true h1
  exact ZF
 ·have d1 : decide (px < b.x0) = false := decide_eq_false h1
  exact Zl
theorem meets2_no_eg (px py qx qy : Int) (b : Bx) (PB QB : Nat) (w : World) (hP : Blk w PB 37 [.int .i32 px, .int .i32 py]) (hQ : Blk w QB 37 [.int .i32 qx, .int .i32 qy]) (hx : px = qx) (hy : qy < py) (hn : ¬ overP px py qx qy b) :
 Calls Tryz.prog 87 #[.agg #[.int .i32 b.x0, .int .i32 b.y0, .int .i32 b.x1, .int .i32 b.y1], .pointer (some ⟨PB, 0, none⟩), .pointer (some ⟨QB, 0, none⟩)] w fun e w' => e = .returned (.bool false) ∧ Keeps (fun _ => False) w w' := by
 have cP := (hP.alloc (.cells #[.int .i32 b.x0, .int .i32 b.y0, .int .i32 b.x1, .int .i32 b.y1] 39)).cell
 have cQ := (hQ.alloc (.cells #[.int .i32 b.x0, .int .i32 b.y0, .int .i32 b.x1, .int .i32 b.y1] 39)).cell
 clear hP hQ
 unfold overP at hn
 subst hx
 have dy : decide (qy < py) = true := decide_eq_true hy
 have ny : ¬ py < qy := by omega
 by_cases h1 : px < b.x0
 ·have d1 : decide (px < b.x0) = true := decide_eq_true h1
  exact ZF
 ·have d1 : decide (px < b.x0) = false := decide_eq_false h1
  exact Zz
theorem meets2_no_ee (px py qx qy : Int) (b : Bx) (PB QB : Nat) (w : World) (hP : Blk w PB 37 [.int .i32 px, .int .i32 py]) (hQ : Blk w QB 37 [.int .i32 qx, .int .i32 qy]) (hx : px = qx) (hy : py = qy) (hn : ¬ overP px py qx qy b) :
 Calls Tryz.prog 87 #[.agg #[.int .i32 b.x0, .int .i32 b.y0, .int .i32 b.x1, .int .i32 b.y1], .pointer (some ⟨PB, 0, none⟩), .pointer (some ⟨QB, 0, none⟩)] w fun e w' => e = .returned (.bool false) ∧ Keeps (fun _ => False) w w' := by
 have cP := (hP.alloc (.cells #[.int .i32 b.x0, .int .i32 b.y0, .int .i32 b.x1, .int .i32 b.y1] 39)).cell
 have cQ := (hQ.alloc (.cells #[.int .i32 b.x0, .int .i32 b.y0, .int .i32 b.x1, .int .i32 b.y1] 39)).cell
 clear hP hQ
 unfold overP at hn
 subst hx
 subst hy
 by_cases h1 : px < b.x0
 ·have d1 : decide (px < b.x0) = true := decide_eq_true h1
  exact ZF
 ·have d1 : decide (px < b.x0) = false := decide_eq_false h1
  exact Zm
theorem meets2_no (px py qx qy : Int) (b : Bx) (PB QB : Nat) (w : World) (hP : Blk w PB 37 [.int .i32 px, .int .i32 py]) (hQ : Blk w QB 37 [.int .i32 qx, .int .i32 qy]) (hn : ¬ overP px py qx qy b) :
 Calls Tryz.prog 87 #[.agg #[.int .i32 b.x0, .int .i32 b.y0, .int .i32 b.x1, .int .i32 b.y1], .pointer (some ⟨PB, 0, none⟩), .pointer (some ⟨QB, 0, none⟩)] w fun e w' => e = .returned (.bool false) ∧ Keeps (fun _ => False) w w' := by
 rcases Int.lt_trichotomy px qx with hx | hx | hx <;> rcases Int.lt_trichotomy py qy with hy | hy | hy
 ·exact meets2_no_ll px py qx qy b PB QB w hP hQ hx hy hn
 ·exact meets2_no_le px py qx qy b PB QB w hP hQ hx hy hn
 ·exact meets2_no_lg px py qx qy b PB QB w hP hQ hx hy hn
 ·exact meets2_no_el px py qx qy b PB QB w hP hQ hx hy hn
 ·exact meets2_no_ee px py qx qy b PB QB w hP hQ hx hy hn
 ·exact meets2_no_eg px py qx qy b PB QB w hP hQ hx hy hn
 ·exact meets2_no_gl px py qx qy b PB QB w hP hQ hx hy hn
 ·exact meets2_no_ge px py qx qy b PB QB w hP hQ hx hy hn
 ·exact meets2_no_gg px py qx qy b PB QB w hP hQ hx hy hn
end Fi
end Go.Proofs.YtdbpfbokfmpgcaaGreat
