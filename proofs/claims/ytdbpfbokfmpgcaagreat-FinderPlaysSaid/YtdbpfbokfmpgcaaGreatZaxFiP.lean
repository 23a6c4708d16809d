/-
FiP: plain: a box that has a point of a way has a cell of the way's line.
-/
import Derived.Test.YtdbpfbokfmpgcaaGreatZawGsYGsZGtAGtBFpP
import Derived.Test.YtdbpfbokfmpgcaaGreatZabGrAGsPFiQGrBGrCGrDGrE
set_option linter.unusedVariables false
set_option linter.unusedSimpArgs false
set_option linter.ambiguousOpen false
namespace Go.Proofs.YtdbpfbokfmpgcaaGreat
theorem ZA0 {p : Prop} (h : p := by simp only; omega) : p := h
open Go.RowKit Go.Shelf
namespace Fi
open Mem Gr Gs
theorem row_in {x y dx dy s mx : Int} (hs : 1 ≤ s) (hdx : 0 < dx) (h0 : x ≤ mx) (h1 : mx ≤ x + dx) :
 lowR x y dx dy s (mx / s) ≤ Gs.rowAt y dx dy s (mx - x) ∧ Gs.rowAt y dx dy s (mx - x) ≤ highR x y dx dy s (mx / s) := by
 have hds : 0 < dx * s := Int.mul_pos hdx Z8
 have hc1 : mx / s * s ≤ mx := Int.ediv_mul_le _ Z8
 have hc2 : mx < (mx / s + 1) * s := Int.lt_ediv_add_one_mul_self _ Z8
 generalize mx / s = c at hc1 hc2 ⊢
 have hend : y * dx + dy * dx = (y + dy) * dx := by rw [Int.add_mul]
 unfold lowR highR
 rw [if_neg Z8, if_neg Z8]
 rcases Int.le_total 0 dy with hy | hy
 ·have m1 : ∀ t, t ≤ mx - x → (y * dx + dy * t) / (dx * s) ≤ Gs.rowAt y dx dy s (mx - x) := fun t ht => Int.ediv_le_ediv hds (by have := mul_le hy ht; omega)
  have m2 : ∀ t, mx - x ≤ t → Gs.rowAt y dx dy s (mx - x) ≤ (y * dx + dy * t) / (dx * s) := fun t ht => Int.ediv_le_ediv hds (by have := mul_le hy ht; omega)
  have f : firstR x y dx dy s c ≤ Gs.rowAt y dx dy s (mx - x) := by
   unfold firstR
   split
   ·exact m1 _ Z8
   ·have := m1 0 Z8
    rw [Int.mul_zero, Int.add_zero, sdiv hdx] at this; exact this
  have l : Gs.rowAt y dx dy s (mx - x) ≤ lastR x y dx dy s c := by
   have l0 : Gs.rowAt y dx dy s (mx - x) ≤ last0 x y dx dy s c := by
    unfold last0
    split
    ·exact m2 _ Z8
    ·have := m2 dx Z8
     rw [hend, sdiv hdx] at this; exact this
   unfold lastR
   split
   ·rename_i ho
    obtain ⟨ho, hp⟩ := ho
    unfold ontoR at ho
    simp only [Bool.and_eq_true, decide_eq_true_eq] at ho
    obtain ⟨he, ho⟩ := ho
    unfold last0
    rw [if_pos he]
    have hlt : dy * (mx - x) < dy * ((c + 1) * s - x) := Int.mul_lt_mul_of_pos_left Z8 hp
    generalize Gs.rowAt y dx dy s ((c + 1) * s - x) = R at ho ⊢
    have h4 : y * dx + dy * (mx - x) < R * (dx * s) := by omega
    have h5 := (Int.ediv_lt_iff_lt_mul hds).2 h4
    show (y * dx + dy * (mx - x)) / (dx * s) ≤ R - 1
    omega
   ·exact l0
  omega
 ·have ny : 0 ≤ -dy := by omega
  have m1 : ∀ t, t ≤ mx - x → Gs.rowAt y dx dy s (mx - x) ≤ (y * dx + dy * t) / (dx * s) := fun t ht => Int.ediv_le_ediv hds (by have := mul_le ny ht; rw [Int.neg_mul, Int.neg_mul] at this; omega)
  have m2 : ∀ t, mx - x ≤ t → (y * dx + dy * t) / (dx * s) ≤ Gs.rowAt y dx dy s (mx - x) := fun t ht => Int.ediv_le_ediv hds (by have := mul_le ny ht; rw [Int.neg_mul, Int.neg_mul] at this; omega)
  have f : Gs.rowAt y dx dy s (mx - x) ≤ firstR x y dx dy s c := by
   unfold firstR
   split
   ·exact m1 _ Z8
   ·have := m1 0 Z8
    rw [Int.mul_zero, Int.add_zero, sdiv hdx] at this; exact this
  have l : lastR x y dx dy s c ≤ Gs.rowAt y dx dy s (mx - x) := by
   have l0 : last0 x y dx dy s c ≤ Gs.rowAt y dx dy s (mx - x) := by
    unfold last0
    split
    ·exact m2 _ Z8
    ·have := m2 dx Z8
     rw [hend, sdiv hdx] at this; exact this
   unfold lastR
   split
   ·omega
   ·exact l0
  omega
theorem rows_touch {x y dx dy s c : Int} (hs : 1 ≤ s) (hdx : 0 < dx) (h0 : x < (c + 1) * s) (h1 : (c + 1) * s ≤ x + dx) :
 lowR x y dx dy s (c + 1) ≤ highR x y dx dy s c + 1 ∧ lowR x y dx dy s c ≤ highR x y dx dy s (c + 1) := by
 have e1 : firstR x y dx dy s (c + 1) = Gs.rowAt y dx dy s ((c + 1) * s - x) := by unfold firstR; rw [if_pos h0]
 have e2 : last0 x y dx dy s c = Gs.rowAt y dx dy s ((c + 1) * s - x) := by unfold last0; rw [if_pos h1]
 have e3 : lastR x y dx dy s c = firstR x y dx dy s (c + 1) ∨ (dy > 0 ∧ lastR x y dx dy s c = firstR x y dx dy s (c + 1) - 1) := by
  unfold lastR
  split
  ·rename_i h; exact .inr ⟨h.2, Z8⟩
  ·exact .inl Z8
 unfold lowR highR
 rw [if_neg Z8, if_neg Z8, if_neg Z8, if_neg Z8]
 omega
theorem greatest {P : Int → Prop} : ∀ (n : Nat) (a : Int), P a → ∃ c, a ≤ c ∧ c ≤ a + n ∧ P c ∧ (c = a + n ∨ ¬ P (c + 1))
 | 0, a, h => ⟨a, Z8, Z8, h, .inl Z8⟩
 | n + 1, a, h => by
  by_cases h1 : P (a + 1)
  ·obtain ⟨c, g1, g2, g3, g4⟩ := greatest n (a + 1) h1
   exact ⟨c, Z8, Z8, g3, by rcases g4 with e | e; exact .inl Z8; exact .inr e⟩
  ·exact ⟨a, Z8, Z8, h, .inr h1⟩
theorem rowAt_end {y dx dy s : Int} (hdx : 0 < dx) : Gs.rowAt y dx dy s 0 = y / s ∧ Gs.rowAt y dx dy s dx = (y + dy) / s := by
 unfold Gs.rowAt
 rw [Int.mul_zero, Int.add_zero, sdiv hdx, ← Int.add_mul, sdiv hdx]
 exact ⟨rfl, rfl⟩
theorem meets_cell {x y dx dy s : Int} {b : Bx} (hs : 1 ≤ s) (hb : b.x0 ≤ b.x1 ∧ b.y0 ≤ b.y1) (hd : 0 ≤ dx) (h : meetsP x y (x + dx) (y + dy) b) : ∃ c ∈ lineR x y dx dy s, covers s b c := by
 obtain ⟨⟨o1, o2, o3, o4⟩, hl, hr⟩ := h
 rcases Int.lt_or_eq_of_le hd with hdx | hdx
 ·have hds : 0 < dx * s := Int.mul_pos hdx Z8
  -- where the box is crossed
  obtain ⟨xl, hxl⟩ := ZE (max b.x0 x)
  obtain ⟨xr, hxr⟩ := ZE (min b.x1 (x + dx))
  have b1 : x ≤ xl ∧ xl ≤ xr ∧ xr ≤ x + dx ∧ b.x0 ≤ xl ∧ xr ≤ b.x1 := by omega
  have tn : ∀ cx cy, turnN x y (x + dx) (y + dy) cx cy = dx * (cy - y) - dy * (cx - x) := fun cx cy => by
   unfold turnN; rw [show x + dx - x = dx by omega, show y + dy - y = dy by omega]
  simp only [tn] at hl hr
  have low : ∀ {t r : Int}, r * dx ≤ y * dx + dy * t → r / s ≤ Gs.rowAt y dx dy s t := fun {t r} h => by
   unfold Gs.rowAt; rw [← sdiv (s := s) hdx]; exact Int.ediv_le_ediv hds h
  have hig : ∀ {t r : Int}, y * dx + dy * t ≤ r * dx → Gs.rowAt y dx dy s t ≤ r / s := fun {t r} h => by
   unfold Gs.rowAt; rw [← sdiv (a := r) (s := s) hdx]; exact Int.ediv_le_ediv hds h
  have eD : ∀ r : Int, dx * (r - y) = r * dx - y * dx := fun r => by rw [Int.mul_sub, Int.mul_comm dx r, Int.mul_comm dx y]
  have ends := rowAt_end (y := y) (dy := dy) (s := s) hdx
  have c1 : ∀ c : Int, c ≤ xr / s → c * s ≤ xr := fun c hc => (Int.le_ediv_iff_mul_le Z8).1 hc
  have c2 : ∀ c : Int, xl / s ≤ c → x < (c + 1) * s := fun c hc => by
   have := Int.lt_ediv_add_one_mul_self xl (show 0 < s by omega)
   have := Int.mul_le_mul_of_nonneg_right (show xl / s + 1 ≤ c + 1 by omega) (show 0 ≤ s by omega)
   omega
  have rl := row_in (y := y) (dy := dy) hs hdx b1.1 (show xl ≤ x + dx by omega)
  have rr := row_in (y := y) (dy := dy) hs hdx (show x ≤ xr by omega) b1.2.2.1
  have hLR := ediv_mono hs b1.2.1
  have done : ∀ c, xl / s ≤ c → c ≤ xr / s → lowR x y dx dy s c ≤ b.y1 / s → b.y0 / s ≤ highR x y dx dy s c → lowR x y dx dy s c ≤ highR x y dx dy s c → ∃ c ∈ lineR x y dx dy s, covers s b c := fun c g1 g2 g3 g4 g5 => by
   refine ⟨(c, max (lowR x y dx dy s c) (b.y0 / s)), ?_, ?_⟩
   ·unfold lineR
    simp only [List.mem_flatMap, List.mem_map, mem_upto]
    have := ediv_mono hs b1.1
    have := ediv_mono hs b1.2.2.1
    exact ⟨c, ⟨Z8, Z8⟩, _, ⟨Z8, Z8⟩, rfl⟩
   ·have := ediv_mono hs b1.2.2.2.1
    have := ediv_mono hs b1.2.2.2.2
    have := ediv_mono hs hb.2
    exact ⟨ZA0, ZA0, ZA0, ZA0⟩
  have lh : ∀ c, lowR x y dx dy s c ≤ highR x y dx dy s c := fun c => by unfold lowR highR; rw [if_neg Z8, if_neg Z8]; omega
  obtain ⟨k, hk⟩ : ∃ k : Nat, xr / s = xl / s + k := ⟨(xr / s - xl / s).toNat, Z8⟩
  rcases Int.le_total 0 dy with hy | hy
  ·have u1 : Gs.rowAt y dx dy s (xl - x) ≤ b.y1 / s := by
    rcases Int.le_total b.x0 x with g | g
    ·rw [show xl - x = 0 by omega, ends.1]; exact ediv_mono hs Z8
    ·refine hig ?_
     rw [show xl = b.x0 by omega]
     apply Classical.byContradiction
     intro hn
     apply hr
     have m := mul_le hy (show b.x0 - x ≤ b.x1 - x by omega)
     have e1 := eD b.y0
     have e2 := eD b.y1
     have m2 : b.y0 * dx ≤ b.y1 * dx := Int.mul_le_mul_of_nonneg_right hb.2 Z8
     omega
   have u2 : b.y0 / s ≤ Gs.rowAt y dx dy s (xr - x) := by
    rcases Int.le_total (x + dx) b.x1 with g | g
    ·rw [show xr - x = dx by omega, ends.2]; exact ediv_mono hs Z8
    ·refine low ?_
     rw [show xr = b.x1 by omega]
     apply Classical.byContradiction
     intro hn
     apply hl
     have m := mul_le hy (show b.x0 - x ≤ b.x1 - x by omega)
     have e1 := eD b.y0
     have e2 := eD b.y1
     have m2 : b.y0 * dx ≤ b.y1 * dx := Int.mul_le_mul_of_nonneg_right hb.2 Z8
     omega
   obtain ⟨c, g1, g2, g3, g4⟩ := greatest (P := fun c => lowR x y dx dy s c ≤ b.y1 / s) k (xl / s) Z8
   refine done c g1 Z8 g3 ?_ (lh c)
   by_cases e : c = xl / s + k
   ·rw [e, ← hk]; omega
   ·have g5 := g4.resolve_left e
    have t := rows_touch (y := y) (dy := dy) hs hdx (c2 c g1) (by have := c1 (c + 1) Z8; omega)
    have := ediv_mono hs hb.2
    omega
  ·have ny : 0 ≤ -dy := by omega
   have mm : ∀ {t u : Int}, t ≤ u → dy * u ≤ dy * t := fun h => by have := mul_le ny h; rw [Int.neg_mul, Int.neg_mul] at this; omega
   have u1 : b.y0 / s ≤ Gs.rowAt y dx dy s (xl - x) := by
    rcases Int.le_total b.x0 x with g | g
    ·rw [show xl - x = 0 by omega, ends.1]; exact ediv_mono hs Z8
    ·refine low ?_
     rw [show xl = b.x0 by omega]
     apply Classical.byContradiction
     intro hn
     apply hl
     have m := mm (show b.x0 - x ≤ b.x1 - x by omega)
     have e1 := eD b.y0
     have e2 := eD b.y1
     have m2 : b.y0 * dx ≤ b.y1 * dx := Int.mul_le_mul_of_nonneg_right hb.2 Z8
     omega
   have u2 : Gs.rowAt y dx dy s (xr - x) ≤ b.y1 / s := by
    rcases Int.le_total (x + dx) b.x1 with g | g
    ·rw [show xr - x = dx by omega, ends.2]; exact ediv_mono hs Z8
    ·refine hig ?_
     rw [show xr = b.x1 by omega]
     apply Classical.byContradiction
     intro hn
     apply hr
     have m := mm (show b.x0 - x ≤ b.x1 - x by omega)
     have e1 := eD b.y0
     have e2 := eD b.y1
     have m2 : b.y0 * dx ≤ b.y1 * dx := Int.mul_le_mul_of_nonneg_right hb.2 Z8
     omega
   obtain ⟨c, g1, g2, g3, g4⟩ := greatest (P := fun c => b.y0 / s ≤ highR x y dx dy s c) k (xl / s) Z8
   refine done c g1 Z8 ?_ g3 (lh c)
   by_cases e : c = xl / s + k
   ·rw [e, ← hk]; omega
   ·have g5 := g4.resolve_left e
    have t := rows_touch (y := y) (dy := dy) hs hdx (c2 c g1) (by have := c1 (c + 1) Z8; omega)
    have := ediv_mono hs hb.2
    omega
 ·subst hdx
  obtain ⟨my, hmy⟩ := ZE (max b.y0 (min y (y + dy)))
  refine ⟨cof s x my, line_hit hs (Int.le_refl _) (Int.le_refl _) Z8 (by rw [Int.mul_zero, Int.sub_self, Int.mul_zero]) (fun _ => Z8), box_cell hs Z8 Z8 Z8 Z8⟩
theorem meets_told {s px py qx qy : Int} {b : Bx} (hs : Size s) (hb : Right b) (h : meetsP px py qx qy b) : ∃ c ∈ lineL px py qx qy s, covers s b c := by
 unfold lineL
 split
 ·have h' := meets_swap h
  rw [show px = qx + (px - qx) by omega, show py = qy + (py - qy) by omega] at h'
  have e1 : qx + (px - qx) - qx = px - qx := by omega
  have := meets_cell hs.1 ⟨hb.2.2.1, hb.2.2.2⟩ (show 0 ≤ px - qx by omega) (by simpa only [e1] using h')
  exact this
 ·have h' := h
  rw [show qx = px + (qx - px) by omega, show qy = py + (qy - py) by omega] at h'
  exact meets_cell hs.1 ⟨hb.2.2.1, hb.2.2.2⟩ (show 0 ≤ qx - px by omega) h'
end Fi
end Go.Proofs.YtdbpfbokfmpgcaaGreat
