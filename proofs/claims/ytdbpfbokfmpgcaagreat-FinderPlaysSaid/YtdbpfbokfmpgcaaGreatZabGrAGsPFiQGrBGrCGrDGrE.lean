/-
GrA: cells: the small functions at the few places that 'works' comes to.
GsP: plain: cells, boxes, lines of a lattice; no program in sight.
FiQ: plain: what covers a place, what meets a way.
GrB: Cover and Line at the few places of 'works': one cell each.
GrC: Line at the places of 'works': one cell.
GrD: New, and Put at the one box of 'works'.
GrE: the maps of a grid at one entry; Cover, Line, Sort and Compact at no more than one element.
-/
import Derived.Test.YtdbpfbokfmpgcaaGreatZaaMemIterTreeAHeldGrowIter
import Derived.Deep.RegionHeld3
import Derived.Shelf.Abstract
set_option linter.unusedVariables false
set_option linter.unusedSimpArgs false
set_option linter.ambiguousOpen false
set_option maxHeartbeats 16000000
set_option maxRecDepth 100000
attribute [local go_sem] Go.Oper.semAt_some
namespace Go.Proofs.YtdbpfbokfmpgcaaGreat
open Go.RowKit Go.Shelf
namespace Gr
open Mem
def Gave (v : Value) (w : World) (e : Ending) (w' : World) : Prop := e = .returned v ∧ Keeps (fun _ => False) w w'
end Gr
namespace Gs
abbrev Cl := Int × Int
structure Bx where
 x0 : Int
 y0 : Int
 x1 : Int
 y1 : Int
 deriving DecidableEq
def B0 : Int := 1073741823
def On (x y : Int) : Prop := -B0 ≤ x ∧ x ≤ B0 ∧ -B0 ≤ y ∧ y ≤ B0
def Size (s : Int) : Prop := 1 ≤ s ∧ s ≤ 2147483648
def Right (b : Bx) : Prop := On b.x0 b.y0 ∧ On b.x1 b.y1 ∧ b.x0 ≤ b.x1 ∧ b.y0 ≤ b.y1
instance (x y : Int) : Decidable (On x y) := by unfold On; infer_instance
instance (s : Int) : Decidable (Size s) := by unfold Size; infer_instance
instance (b : Bx) : Decidable (Right b) := by unfold Right; infer_instance
def cof (s x y : Int) : Cl := (x / s, y / s)
def cnt (s : Int) (b : Bx) : Int := (b.x1 / s - b.x0 / s + 1) * (b.y1 / s - b.y0 / s + 1)
def covers (s : Int) (b : Bx) (c : Cl) : Prop := b.x0 / s ≤ c.1 ∧ c.1 ≤ b.x1 / s ∧ b.y0 / s ≤ c.2 ∧ c.2 ≤ b.y1 / s
instance (s : Int) (b : Bx) (c : Cl) : Decidable (covers s b c) := by unfold covers; infer_instance
def upto (a b : Int) : List Int := (List.range (b - a + 1).toNat).map fun i : Nat => a + (i : Int)
theorem mem_upto {a b x : Int} : x ∈ upto a b ↔ a ≤ x ∧ x ≤ b := by
 unfold upto
 simp only [List.mem_map, List.mem_range]
 constructor
 ·rintro ⟨i, hi, rfl⟩; omega
 ·rintro ⟨h1, h2⟩; exact ⟨(x - a).toNat, Z8, Z8⟩
theorem upto_nil {a b : Int} (h : b < a) : upto a b = [] := by
 unfold upto
 rw [show (b - a + 1).toNat = 0 by omega]; rfl
theorem upto_cons {a b : Int} (h : a ≤ b) : upto a b = a :: upto (a + 1) b := by
 unfold upto
 rw [show (b - a + 1).toNat = (b - (a + 1) + 1).toNat + 1 by omega, List.range_succ_eq_map, List.map_cons, List.map_map]
 simp only [List.cons.injEq, Int.natCast_zero, Int.add_zero, true_and]
 apply List.map_congr_left
 intro i _
 simp only [Function.comp_apply, Nat.succ_eq_add_one, Int.natCast_add, Int.natCast_one]
 omega
theorem upto_nodup (a b : Int) : (upto a b).Nodup := by
 unfold upto
 refine List.Pairwise.map _ ?_ List.nodup_range
 intro i j h
 simp only [ne_eq]
 omega
theorem upto_len (a b : Int) : (upto a b).length = (b - a + 1).toNat := by simp [upto]
def coverL (s : Int) (b : Bx) : List Cl := (upto (b.y0 / s) (b.y1 / s)).flatMap fun y => (upto (b.x0 / s) (b.x1 / s)).map fun x => (x, y)
theorem mem_coverL {s : Int} {b : Bx} {c : Cl} : c ∈ coverL s b ↔ covers s b c := by
 unfold coverL covers
 simp only [List.mem_flatMap, List.mem_map, mem_upto]
 constructor
 ·rintro ⟨y, hy, x, hx, rfl⟩; exact ⟨hx.1, hx.2, hy.1, hy.2⟩
 ·rintro ⟨h1, h2, h3, h4⟩; exact ⟨c.2, ⟨h3, h4⟩, c.1, ⟨h1, h2⟩, rfl⟩
theorem coverL_nodup (s : Int) (b : Bx) : (coverL s b).Nodup := by
 unfold coverL
 rw [List.Nodup, List.pairwise_flatMap]
 refine ⟨fun y _ => ?_, ?_⟩
 ·refine List.Pairwise.map _ ?_ (upto_nodup _ _)
  intro i j h e
  exact h (Prod.mk.inj e).1
 ·refine List.Pairwise.imp ?_ (upto_nodup _ _)
  intro y z h c hc d hd e
  simp only [List.mem_map] at hc hd
  obtain ⟨i, _, rfl⟩ := hc
  obtain ⟨j, _, rfl⟩ := hd
  exact h (Prod.mk.inj e).2
/-! lines -/
def rowAt (y dx dy s t : Int) : Int := (y * dx + dy * t) / (dx * s)
def firstR (x y dx dy s c : Int) : Int := if c * s > x then rowAt y dx dy s (c * s - x) else y / s
def ontoR (x y dx dy s c : Int) : Bool := decide ((c + 1) * s ≤ x + dx) && decide (rowAt y dx dy s ((c + 1) * s - x) * (dx * s) = y * dx + dy * ((c + 1) * s - x))
def last0 (x y dx dy s c : Int) : Int := if (c + 1) * s ≤ x + dx then rowAt y dx dy s ((c + 1) * s - x) else (y + dy) / s
def lastR (x y dx dy s c : Int) : Int := if ontoR x y dx dy s c = true ∧ dy > 0 then last0 x y dx dy s c - 1 else last0 x y dx dy s c
def lowR (x y dx dy s c : Int) : Int := if dx = 0 then min (y / s) ((y + dy) / s) else min (firstR x y dx dy s c) (lastR x y dx dy s c)
def highR (x y dx dy s c : Int) : Int := if dx = 0 then max (y / s) ((y + dy) / s) else max (firstR x y dx dy s c) (lastR x y dx dy s c)
def lineR (x y dx dy s : Int) : List Cl := (upto (x / s) ((x + dx) / s)).flatMap fun c => (upto (lowR x y dx dy s c) (highR x y dx dy s c)).map fun r => (c, r)
def lineL (px py qx qy s : Int) : List Cl := if px > qx then lineR qx qy (px - qx) (py - qy) s else lineR px py (qx - px) (qy - py) s
theorem ediv_mono {a b s : Int} (hs : 1 ≤ s) (h : a ≤ b) : a / s ≤ b / s := Int.ediv_le_ediv Z8 h
theorem sdiv {a dx s : Int} (hd : 0 < dx) : a * dx / (dx * s) = a / s := by
 rw [Int.mul_comm dx s]; exact Int.mul_ediv_mul_of_pos_left a s hd
theorem mul_le {a b c : Int} (hc : 0 ≤ c) (h : a ≤ b) : c * a ≤ c * b := Int.mul_le_mul_of_nonneg_left h hc
theorem rows_hit {x y dx dy s mx my : Int} (hs : 1 ≤ s) (hdx : 0 < dx) (h0 : x ≤ mx) (h1 : mx ≤ x + dx) (hm : (my - y) * dx = dy * (mx - x)) :
 lowR x y dx dy s (mx / s) ≤ my / s ∧ my / s ≤ highR x y dx dy s (mx / s) := by
 have hY : y * dx + dy * (mx - x) = my * dx := by rw [← hm, ← Int.add_mul]; congr 1; omega
 have hds : 0 < dx * s := Int.mul_pos hdx Z8
 have hc1 : mx / s * s ≤ mx := Int.ediv_mul_le _ Z8
 have hc2 : mx < (mx / s + 1) * s := Int.lt_ediv_add_one_mul_self _ Z8
 generalize mx / s = c at hc1 hc2 ⊢
 have hmy : my / s = my * dx / (dx * s) := (sdiv hdx).symm
 have hend : y * dx + dy * dx = (y + dy) * dx := by rw [Int.add_mul]
 unfold lowR highR
 rw [if_neg Z8, if_neg Z8]
 rcases Int.le_total 0 dy with hy | hy
 ·-- upwards
  have m1 : ∀ t, t ≤ mx - x → (y * dx + dy * t) / (dx * s) ≤ my / s := fun t ht => by
   rw [hmy]; refine Int.ediv_le_ediv hds ?_
   have := mul_le hy ht; omega
  have m2 : ∀ t, mx - x ≤ t → my / s ≤ (y * dx + dy * t) / (dx * s) := fun t ht => by
   rw [hmy]; refine Int.ediv_le_ediv hds ?_
   have := mul_le hy ht; omega
  have f : firstR x y dx dy s c ≤ my / s := by
   unfold firstR
   split
   ·exact m1 _ Z8
   ·have := m1 0 Z8
    rw [Int.mul_zero, Int.add_zero, sdiv hdx] at this; exact this
  have l : my / s ≤ lastR x y dx dy s c := by
   have l0 : my / s ≤ last0 x y dx dy s c := by
    unfold last0
    split
    ·exact m2 _ Z8
    ·have := m2 dx Z8
     rw [hend, sdiv hdx] at this; exact this
   unfold lastR
   split
   ·rename_i ho
    obtain ⟨ho, hp⟩ := ho
    unfold ontoR at ho
    simp only [Bool.and_eq_true, decide_eq_true_eq] at ho
    obtain ⟨he, ho⟩ := ho
    unfold last0
    rw [if_pos he]
    have hlt : dy * (mx - x) < dy * ((c + 1) * s - x) := Int.mul_lt_mul_of_pos_left Z8 hp
    generalize rowAt y dx dy s ((c + 1) * s - x) = R at ho ⊢
    have h3 : my * dx < R * s * dx := by
     rw [Int.mul_assoc, Int.mul_comm s dx, ho, ← hY]; omega
    have h4 : my < R * s := Int.lt_of_mul_lt_mul_right h3 Z8
    have h5 := (Int.ediv_lt_iff_lt_mul (show 0 < s by omega)).2 h4
    omega
   ·exact l0
  omega
 ·-- downwards
  have ny : 0 ≤ -dy := by omega
  have m1 : ∀ t, t ≤ mx - x → my / s ≤ (y * dx + dy * t) / (dx * s) := fun t ht => by
   rw [hmy]; refine Int.ediv_le_ediv hds ?_
   have := mul_le ny ht; rw [Int.neg_mul, Int.neg_mul] at this; omega
  have m2 : ∀ t, mx - x ≤ t → (y * dx + dy * t) / (dx * s) ≤ my / s := fun t ht => by
   rw [hmy]; refine Int.ediv_le_ediv hds ?_
   have := mul_le ny ht; rw [Int.neg_mul, Int.neg_mul] at this; omega
  have f : my / s ≤ firstR x y dx dy s c := by
   unfold firstR
   split
   ·exact m1 _ Z8
   ·have := m1 0 Z8
    rw [Int.mul_zero, Int.add_zero, sdiv hdx] at this; exact this
  have l : lastR x y dx dy s c ≤ my / s := by
   have l0 : last0 x y dx dy s c ≤ my / s := by
    unfold last0
    split
    ·exact m2 _ Z8
    ·have := m2 dx Z8
     rw [hend, sdiv hdx] at this; exact this
   unfold lastR
   split
   ·omega
   ·exact l0
  omega
theorem line_hit {x y dx dy s mx my : Int} (hs : 1 ≤ s) (hdx : 0 ≤ dx) (h0 : x ≤ mx) (h1 : mx ≤ x + dx) (hm : (my - y) * dx = dy * (mx - x)) (hz : dx = 0 → (y ≤ my ∧ my ≤ y + dy) ∨ (y + dy ≤ my ∧ my ≤ y)) :
 cof s mx my ∈ lineR x y dx dy s := by
 unfold lineR cof
 simp only [List.mem_flatMap, List.mem_map, mem_upto]
 refine ⟨mx / s, ⟨ediv_mono hs h0, ediv_mono hs h1⟩, my / s, ?_, rfl⟩
 by_cases he : dx = 0
 ·unfold lowR highR
  rw [if_pos he, if_pos he]
  rcases hz he with ⟨h2, h3⟩ | ⟨h2, h3⟩
  ·have := ediv_mono hs h2; have := ediv_mono hs h3; omega
  ·have := ediv_mono hs h2; have := ediv_mono hs h3; omega
 ·exact rows_hit hs Z8 h0 h1 hm
end Gs
namespace Fi
open Gs
def turnN (px py qx qy cx cy : Int) : Int := (qx - px) * (cy - py) - (qy - py) * (cx - px)
def sgn (z : Int) : Int := if z < 0 then -1 else if z = 0 then 0 else 1
def meetsP (px py qx qy : Int) (b : Bx) : Prop :=
 (b.x0 ≤ max px qx ∧ min px qx ≤ b.x1 ∧ b.y0 ≤ max py qy ∧ min py qy ≤ b.y1) ∧
 ¬ (0 < turnN px py qx qy b.x0 b.y0 ∧ 0 < turnN px py qx qy b.x1 b.y1 ∧ 0 < turnN px py qx qy b.x0 b.y1 ∧ 0 < turnN px py qx qy b.x1 b.y0) ∧
 ¬ (turnN px py qx qy b.x0 b.y0 < 0 ∧ turnN px py qx qy b.x1 b.y1 < 0 ∧ turnN px py qx qy b.x0 b.y1 < 0 ∧ turnN px py qx qy b.x1 b.y0 < 0)
instance (px py qx qy : Int) (b : Bx) : Decidable (meetsP px py qx qy b) := by unfold meetsP; infer_instance
def coversP (px py : Int) (b : Bx) : Prop := b.x0 ≤ px ∧ px ≤ b.x1 ∧ b.y0 ≤ py ∧ py ≤ b.y1
instance (px py : Int) (b : Bx) : Decidable (coversP px py b) := by unfold coversP; infer_instance
theorem turn_swap (px py qx qy cx cy : Int) : turnN qx qy px py cx cy = - turnN px py qx qy cx cy := by
 unfold turnN
 have e1 : (px - qx) * (cy - qy) = -((qx - px) * (cy - py)) + (qx - px) * (qy - py) := by
  rw [← Int.neg_mul, show -(qx - px) = px - qx by omega, show (qx - px) * (qy - py) = (px - qx) * (py - qy) by rw [show px - qx = -(qx - px) by omega, show py - qy = -(qy - py) by omega, Int.neg_mul_neg], ← Int.mul_add]
  congr 1; omega
 have e2 : (py - qy) * (cx - qx) = -((qy - py) * (cx - px)) + (qy - py) * (qx - px) := by
  rw [← Int.neg_mul, show -(qy - py) = py - qy by omega, show (qy - py) * (qx - px) = (py - qy) * (px - qx) by rw [show px - qx = -(qx - px) by omega, show py - qy = -(qy - py) by omega, Int.neg_mul_neg], ← Int.mul_add]
  congr 1; omega
 rw [e1, e2, Int.mul_comm (qy - py) (qx - px)]; omega
theorem meets_swap {px py qx qy : Int} {b : Bx} (h : meetsP px py qx qy b) : meetsP qx qy px py b := by
 unfold meetsP at h ⊢
 simp only [turn_swap px py qx qy]
 rw [Int.max_comm qx px, Int.min_comm qx px, Int.max_comm qy py, Int.min_comm qy py]
 obtain ⟨h1, h2, h3⟩ := h
 refine ⟨h1, fun g => h3 ⟨Z8, Z8, Z8, Z8⟩, fun g => h2 ⟨Z8, Z8, Z8, Z8⟩⟩
theorem covers_meets {px py qx qy : Int} {b : Bx} (h : coversP px py b) : meetsP px py qx qy b := by
 obtain ⟨h1, h2, h3, h4⟩ := h
 have pos : ∀ u v : Int, 0 ≤ u → 0 ≤ v → 0 ≤ u * v := fun u v hu hv => Int.mul_nonneg hu hv
 have neg : ∀ u v : Int, 0 ≤ u → v ≤ 0 → u * v ≤ 0 := fun u v hu hv => Int.mul_nonpos_of_nonneg_of_nonpos hu hv
 have gen : ∀ u v : Int, u ≤ 0 → 0 ≤ v → u * v ≤ 0 := fun u v hu hv => Int.mul_nonpos_of_nonpos_of_nonneg hu hv
 have nn : ∀ u v : Int, u ≤ 0 → v ≤ 0 → 0 ≤ u * v := fun u v hu hv => Int.mul_nonneg_of_nonpos_of_nonpos hu hv
 refine ⟨Z8, ?_, ?_⟩ <;> unfold turnN
 ·rintro ⟨a1, a2, a3, a4⟩
  rcases Int.le_total 0 (qx - px) with hx | hx <;> rcases Int.le_total 0 (qy - py) with hy | hy
  ·have := neg _ (b.y0 - py) hx Z8; have := pos _ (b.x1 - px) hy Z8; omega
  ·have := neg _ (b.y0 - py) hx Z8; have := nn _ (b.x0 - px) hy Z8; omega
  ·have := gen _ (b.y1 - py) hx Z8; have := pos _ (b.x1 - px) hy Z8; omega
  ·have := gen _ (b.y1 - py) hx Z8; have := nn _ (b.x0 - px) hy Z8; omega
 ·rintro ⟨a1, a2, a3, a4⟩
  rcases Int.le_total 0 (qx - px) with hx | hx <;> rcases Int.le_total 0 (qy - py) with hy | hy
  ·have := pos _ (b.y1 - py) hx Z8; have := neg _ (b.x0 - px) hy Z8; omega
  ·have := pos _ (b.y1 - py) hx Z8; have := gen _ (b.x1 - px) hy Z8; omega
  ·have := nn _ (b.y0 - py) hx Z8; have := neg _ (b.x0 - px) hy Z8; omega
  ·have := nn _ (b.y0 - py) hx Z8; have := gen _ (b.x1 - px) hy Z8; omega
theorem covers_meets' {px py qx qy : Int} {b : Bx} (h : coversP qx qy b) : meetsP px py qx qy b := meets_swap (covers_meets h)
end Fi
open Go.RowKit Go.Shelf
namespace Gr
open Mem
theorem YieldAt_any {P : Program} {m m' l : Nat} {args : Array Value} {W : World} {R : Ending → World → Prop} (h : YieldAt Fence.wide m P l args W R) : YieldAt Fence.wide m' P l args W R := by
 obtain ⟨fn, tmps, assign, body, hy, hF, hR⟩ := h
 exact ⟨fn, tmps, assign, body, hy, hF, fun c cs _ => hR c cs (room_wide _)⟩
theorem Gives.any {α : Type} {P : Program} {n n' gf : Nat} {lb : Array Value} {encs : α → Array Value} {xs : List α} {W : World} {A : (Nat → Prop) → Prop} (h : Gives P n gf lb encs xs W A) : Gives P n' gf lb encs xs W A := by
 intro l J Jx S hA hJ hJx hin hY h0
 exact callsIn_wide.2 (callsIn_wide.1 (h l J Jx S hA hJ hJx hin (fun pre x rest S1 W1 e hj hi => YieldAt_any (hY pre x rest S1 W1 e hj hi)) h0))
theorem values_any (a : Option Addr) (k c : Nat) (w : World) :
 Calls Tryz.prog 81 #[.slice a k c] w fun e w' => e = .returned (.func (.func 92) #[] #[.pointer (some ⟨w.heap.size, 0, none⟩)]) ∧ w.alloc (.cells #[.slice a k c] 45) = w' := by
 go_enter Tryz.func81, Tryz.ntmps81
 go_wp2
 go_ret
 exact ⟨rfl, rfl⟩
end Gr
open Go.RowKit Go.Shelf
namespace Gr
open Mem
theorem fld (a b : Int) (W : World) : Sem.run Tryz.prog (Instr.field 181 (.agg #[.int .i32 a, .int .i32 b]) 0) W = .ok (.int .i32 a) W := by kernel_rfl
end Gr
open Go.RowKit Go.Shelf
namespace Gr
open Mem
def Mp (w : World) (r : Nat) (es : Array MapEntry) (k : Nat) : Prop := w.heap[r]? = some (.map es k)
section
variable {w w' : World} {S : Nat → Prop} {r k : Nat} {es : Array MapEntry}
end
theorem neq_map (r : Nat) (W : World) : (binOp .neq 60 (.map (some r)) (.map none)).run Tryz.prog W = .ok (.bool true) W := by kernel_rfl
end Gr
open Go.RowKit Go.Shelf
namespace Gr
open Mem
def setM (w : World) (r : Nat) (es : Array MapEntry) (k : Nat) : World := { w with heap := w.heap.setIfInBounds r (.map es k) }
theorem setM_keeps (w : World) (r : Nat) (es : Array MapEntry) (k : Nat) : Keeps (fun x => x = r) w (setM w r es k) :=
 ⟨rfl, rfl, rfl, by simp [setM], fun x _ hn => by simp [setM, Array.getElem?_setIfInBounds_ne (Ne.symm hn)]⟩
theorem zv37 (W : World) : (zeroValue 39).run Tryz.prog W = .ok (.agg #[.int .i32 0, .int .i32 0, .int .i32 0, .int .i32 0]) W := by kernel_rfl
theorem insertion1 (a : Option Addr) (n c : Nat) (hn : n ≤ 1) (w : World) : Calls Tryz.prog 95 #[.slice a n c, .int .i64 0, .int .i64 (n : Int)] w fun e w' => (∃ v, e = .returned v) ∧ w = w' := by
 have h1 : ¬ (1 : Int) < (n : Int) := by omega
 refine (callsIn_wide (n := 9)).1 ?_
 refine callsIn_of_wp Tryz.func95 rfl trivial ?_ rfl
 simp only [Tryz.ntmps95, List.size_toArray, List.length_cons, List.length_nil, Nat.reduceAdd, Nat.reduceSub, Array.replicate_succ, Array.replicate_zero, List.push_toArray, List.append_toArray, List.nil_append, List.cons_append]
 gi_wp2
 refine wpIn_loop_rounds 1 ?_
 rw [roundsIn_succ]
 gi_wp2
 go_end0
 exact ⟨⟨_, rfl⟩, rfl⟩
theorem pdq1 (a : Option Addr) (n c : Nat) (hn : n ≤ 1) (l : Value) (w : World) : Calls Tryz.prog 90 #[.slice a n c, .int .i64 0, .int .i64 (n : Int), l] w fun e w' => (∃ v, e = .returned v) ∧ w = w' := by
 have h1 : (n : Int) ≤ 12 := by omega
 have h2 : IntKind.i64.wrap (n : Int) = (n : Int) := IntWalk.i64_in _ Z8
 refine (callsIn_wide (n := 9)).1 ?_
 refine callsIn_of_wp Tryz.func90 rfl trivial ?_ rfl
 simp only [Tryz.ntmps90, List.size_toArray, List.length_cons, List.length_nil, Nat.reduceAdd, Nat.reduceSub, Array.replicate_succ, Array.replicate_zero, List.push_toArray, List.append_toArray, List.nil_append, List.cons_append]
 gi_wp2
 refine wpIn_loop_rounds 1 ?_
 rw [roundsIn_succ]
 gi_wp2_with (refine ⟨trivial, ?_⟩; gi_at_call 95; refine (callsIn_wide.2 (insertion1 _ _ _ hn _)).mono ?_; rintro e w1 ⟨⟨v, rfl⟩, rfl⟩)
 refine bodyPost_ret (results_none rfl _ _ _) rfl ?_
 exact ⟨⟨_, rfl⟩, rfl⟩
theorem compact1 (a : Option Addr) (n c : Nat) (hn : n ≤ 1) (w : World) : Calls Tryz.prog 82 #[.slice a n c] w fun e w' => e = .returned (.slice a n c) ∧ w = w' := by
 have h1 : (n : Int) < 2 := by omega
 go_enter Tryz.func82, Tryz.ntmps82
 go_wp2
 go_ret
 exact ⟨rfl, rfl⟩
theorem len64_yes (n : Int) (h0 : 0 ≤ n) (h : n ≤ 1) (w : World) : Calls Tryz.prog 105 #[.int .u64 n] w fun e w' => (∃ k, e = .returned (.int .i64 k)) ∧ w = w' := by
 rcases (by omega : n = 0 ∨ n = 1) with rfl | rfl
 all_goals
  go_enter Tryz.func105, Tryz.ntmps105
  go_wp2
  go_ret
  exact ⟨⟨_, rfl⟩, rfl⟩
theorem len_yes (n : Int) (h0 : 0 ≤ n) (h : n ≤ 1) (w : World) : Calls Tryz.prog 91 #[.int .u64 n] w fun e w' => (∃ k, e = .returned (.int .i64 k)) ∧ w = w' := by
 have hw : IntKind.u64.wrap n = n := IntWalk.u64_in _ Z8
 go_enter Tryz.func91, Tryz.ntmps91
 go_wp2_with (go_at_call 105; refine (len64_yes _ h0 h _).mono ?_; rintro e w1 ⟨⟨k, rfl⟩, rfl⟩)
 go_ret
 exact ⟨⟨_, rfl⟩, rfl⟩
theorem sort1 (a : Option Addr) (n c : Nat) (hn : n ≤ 1) (w : World) : Calls Tryz.prog 80 #[.slice a n c] w fun e w' => (∃ v, e = .returned v) ∧ w = w' := by
 have hw : IntKind.u64.wrap (n : Int) = (n : Int) := IntWalk.u64_in _ Z8
 have h2 : IntKind.i64.wrap (n : Int) = (n : Int) := IntWalk.i64_in _ Z8
 go_enter Tryz.func80, Tryz.ntmps80
 go_wp2_with (first
  | (go_at_call 91; refine (len_yes _ Z8 Z8 _).mono ?_; rintro e w1 ⟨⟨k, rfl⟩, rfl⟩)
  | (go_at_call 90; refine (pdq1 _ _ _ hn _ _).mono ?_; rintro e w1 ⟨⟨v, rfl⟩, rfl⟩))
 first
  | (go_end0; exact ⟨⟨_, rfl⟩, rfl⟩)
  | trace_state
end Gr
end Go.Proofs.YtdbpfbokfmpgcaaGreat
