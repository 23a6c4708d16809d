/-
FiE: the finder: what meets a way, its bounds touching.
-/
import Derived.Test.YtdbpfbokfmpgcaaGreatZbnFiD
set_option linter.unusedVariables false
set_option linter.unusedSimpArgs false
set_option linter.ambiguousOpen false
set_option maxHeartbeats 16000000
attribute [local go_sem] Go.Oper.semAt_some
namespace Go.Proofs.YtdbpfbokfmpgcaaGreat
theorem ZBP {p : Prop} (h : p := by decide) : p := h
theorem ZBT {p : Prop} (h : p := by rw [Int.natCast_add]; rfl) : p := h
theorem ZAn {p : Prop} (h : p := by rw [Hpy.out]; rfl) : p := h
theorem ZBV {p : Prop} (h : p := by simp only; omega) : p := h
theorem ZA {p : Prop} (h : p := by
 rw [← HNN.out.1, ← htz] at hl
 rw [← HNN.out.2, ← htz] at hr
 have HLR := Lib.hid (And.intro hl hr)
 clear hc htz hK hl hr hcnt
 by_cases s1 : 0 < tz
 ·have zs : sg tz = 1 := by unfold sg; rw [if_neg Z8, if_neg Z8]
  rw [zs] at z
  have HZ := Lib.hid z
  have S1 := Lib.hid s1
  clear z zs s1
  (go_wp2_with (go_at_call 88; (with_reducible refine (HZ.out _).mono ?_); rintro e w5 ⟨rfl, hk5⟩; have HK5 := Lib.hid (((Keeps.refl (fun _ => False) wr).alloc _).trans hk5); clear hk5); go_roundw)
  case rel =>
   obtain ⟨hl, hr⟩ := HLR.out
   rw [if_pos S1.out] at hl
   rw [if_neg (by have := S1.out; omega)] at hr
   exact ⟨j + 1, ZBT, Z8, by rw [hl, Int.natCast_add]; rfl, by rw [hr]; rfl, HK.out.trans HK5.out⟩
  case measure => simp only [intOf]; omega
 ·by_cases s2 : tz < 0
  ·have zs : sg tz = -1 := by unfold sg; rw [if_pos s2]
   rw [zs] at z
   have HZ := Lib.hid z
   have S1 := Lib.hid (And.intro s1 s2)
   clear z zs s1 s2
   (go_wp2_with (go_at_call 88; (with_reducible refine (HZ.out _).mono ?_); rintro e w5 ⟨rfl, hk5⟩; have HK5 := Lib.hid (((Keeps.refl (fun _ => False) wr).alloc _).trans hk5); clear hk5); go_roundw)
   case rel =>
    obtain ⟨hl, hr⟩ := HLR.out
    rw [if_neg (show ¬ 0 < tz by have := S1.out; omega)] at hl
    rw [if_pos (show tz < 0 from S1.out.2)] at hr
    exact ⟨j + 1, ZBT, Z8, by rw [hl]; rfl, by rw [hr, Int.natCast_add]; rfl, HK.out.trans HK5.out⟩
   case measure => simp only [intOf]; omega
  ·have zs : sg tz = 0 := by unfold sg; rw [if_neg s2, if_pos Z8]
   rw [zs] at z
   have HZ := Lib.hid z
   have S1 := Lib.hid (And.intro s1 s2)
   clear z zs s1 s2
   (go_wp2_with (go_at_call 88; (with_reducible refine (HZ.out _).mono ?_); rintro e w5 ⟨rfl, hk5⟩; have HK5 := Lib.hid (((Keeps.refl (fun _ => False) wr).alloc _).trans hk5); clear hk5); go_roundw)
   case rel =>
    obtain ⟨hl, hr⟩ := HLR.out
    rw [if_neg (show ¬ 0 < tz by have := S1.out; omega)] at hl
    rw [if_neg (show ¬ tz < 0 by have := S1.out; omega)] at hr
    exact ⟨j + 1, ZBT, Z8, by rw [hl]; rfl, by rw [hr]; rfl, HK.out.trans HK5.out⟩
   case measure => simp only [intOf]; omega) : p := h
theorem ZC {p : Prop} (h : p := by
 obtain ⟨j, rfl, hj, rfl, rfl, hK⟩ := hrel
 have HK := Lib.hid hK
 have hcnt := cnt_le (px := px) (py := py) (qx := qx) (qy := qy) (l := corners b) j
 obtain ⟨nl, hnl⟩ := ZBE (lefts px py qx qy ((corners b).take j))
 obtain ⟨nr, hnr⟩ := ZBE (rights px py qx qy ((corners b).take j))
 rw [← hnl, ← hnr] at hcnt ⊢
 have HNN := Lib.hid (And.intro hnl hnr)
 have hnl4 : (nl : Int) ≤ 4 := by omega
 have hnr4 : (nr : Int) ≤ 4 := by omega
 clear hnl hnr
 by_cases hjl : j < 4
 ·obtain ⟨c, hc⟩ : ∃ c, (corners b)[j]? = some c := ⟨_, List.getElem?_eq_getElem (by show j < 4; omega)⟩
  obtain ⟨e0, e1⟩ := corner_cell (HB8.out.keeps hK (fun h => h)) hc
  have z := HT.out c (corner_on HO.out.1 hc)
  have cP := ((HO.out.2.1.keeps (HK8.out.trans hK) (fun h => h)).alloc (.cells #[.int .i32 c.1, .int .i32 c.2] 37)).cell
  have cQ := ((HO.out.2.2.1.keeps (HK8.out.trans hK) (fun h => h)).alloc (.cells #[.int .i32 c.1, .int .i32 c.2] 37)).cell
  have hjI : (j : Int) < 4 := by omega
  have hj0 : (0 : Int) ≤ j := by omega
  obtain ⟨tz, htz⟩ := ZBE (turnN px py qx qy c.1 c.2)
  rw [← htz] at z
  have HC := Lib.hid (And.intro hc htz)
  have hl := lefts_at (px := px) (py := py) (qx := qx) (qy := qy) hc
  have hr := rights_at (px := px) (py := py) (qx := qx) (qy := qy) hc
  exact ZA
 ·obtain rfl : j = 4 := by omega
  have hm : meetsP px py qx qy b ↔ (nl < 4 ∧ nr < 4) := by rw [HO.out.2.2.2, HNN.out.1, HNN.out.2]; rfl
  have HM := Lib.hid hm
  clear hm hK hcnt
  by_cases s1 : nl < 4
  ·have s1I : (nl : Int) < 4 := by omega
   by_cases s2 : nr < 4
   ·have s2I : (nr : Int) < 4 := by omega
    have Hpy := Lib.hid (show decide (meetsP px py qx qy b) = true by rw [decide_eq_true_eq, HM.out]; exact ⟨s1, s2⟩)
    clear s1 s2
    go_wp2
    go_ret
    exact ⟨ZAn, HK8.out.trans HK.out⟩
   ·have s2I : ¬ (nr : Int) < 4 := by omega
    have Hpy := Lib.hid (show decide (meetsP px py qx qy b) = false by rw [decide_eq_false_iff_not, HM.out]; exact fun h => s2 h.2)
    clear s1 s2
    go_wp2
    go_ret
    exact ⟨ZAn, HK8.out.trans HK.out⟩
  ·have s1I : ¬ (nl : Int) < 4 := by omega
   have Hpy := Lib.hid (show decide (meetsP px py qx qy b) = false by rw [decide_eq_false_iff_not, HM.out]; exact fun h => s1 h.1)
   clear s1
   go_wp2
   go_ret
   exact ⟨ZAn, HK8.out.trans HK.out⟩) : p := h
theorem ZJ {p : Prop} (h : p := by
 obtain ⟨j, rfl, hj, rfl, rfl, hK⟩ := hrel
 have HK := Lib.hid hK
 have hcnt := cnt_le (px := px) (py := py) (qx := qx) (qy := py) (l := corners b) j
 obtain ⟨nl, hnl⟩ := ZBE (lefts px py qx py ((corners b).take j))
 obtain ⟨nr, hnr⟩ := ZBE (rights px py qx py ((corners b).take j))
 rw [← hnl, ← hnr] at hcnt ⊢
 have HNN := Lib.hid (And.intro hnl hnr)
 have hnl4 : (nl : Int) ≤ 4 := by omega
 have hnr4 : (nr : Int) ≤ 4 := by omega
 clear hnl hnr
 by_cases hjl : j < 4
 ·obtain ⟨c, hc⟩ : ∃ c, (corners b)[j]? = some c := ⟨_, List.getElem?_eq_getElem (by show j < 4; omega)⟩
  obtain ⟨e0, e1⟩ := corner_cell (HB8.out.keeps hK (fun h => h)) hc
  have z := HT.out c (corner_on HO.out.1 hc)
  have cP := ((HO.out.2.1.keeps (HK8.out.trans hK) (fun h => h)).alloc (.cells #[.int .i32 c.1, .int .i32 c.2] 37)).cell
  have cQ := ((HO.out.2.2.1.keeps (HK8.out.trans hK) (fun h => h)).alloc (.cells #[.int .i32 c.1, .int .i32 c.2] 37)).cell
  have hjI : (j : Int) < 4 := by omega
  have hj0 : (0 : Int) ≤ j := by omega
  obtain ⟨tz, htz⟩ := ZBE (turnN px py qx py c.1 c.2)
  rw [← htz] at z
  have HC := Lib.hid (And.intro hc htz)
  have hl := lefts_at (px := px) (py := py) (qx := qx) (qy := py) hc
  have hr := rights_at (px := px) (py := py) (qx := qx) (qy := py) hc
  exact ZA
 ·obtain rfl : j = 4 := by omega
  have hm : meetsP px py qx py b ↔ (nl < 4 ∧ nr < 4) := by rw [HO.out.2.2.2, HNN.out.1, HNN.out.2]; rfl
  have HM := Lib.hid hm
  clear hm hK hcnt
  by_cases s1 : nl < 4
  ·have s1I : (nl : Int) < 4 := by omega
   by_cases s2 : nr < 4
   ·have s2I : (nr : Int) < 4 := by omega
    have Hpy := Lib.hid (show decide (meetsP px py qx py b) = true by rw [decide_eq_true_eq, HM.out]; exact ⟨s1, s2⟩)
    clear s1 s2
    go_wp2
    go_ret
    exact ⟨ZAn, HK8.out.trans HK.out⟩
   ·have s2I : ¬ (nr : Int) < 4 := by omega
    have Hpy := Lib.hid (show decide (meetsP px py qx py b) = false by rw [decide_eq_false_iff_not, HM.out]; exact fun h => s2 h.2)
    clear s1 s2
    go_wp2
    go_ret
    exact ⟨ZAn, HK8.out.trans HK.out⟩
  ·have s1I : ¬ (nl : Int) < 4 := by omega
   have Hpy := Lib.hid (show decide (meetsP px py qx py b) = false by rw [decide_eq_false_iff_not, HM.out]; exact fun h => s1 h.1)
   clear s1
   go_wp2
   go_ret
   exact ⟨ZAn, HK8.out.trans HK.out⟩) : p := h
theorem ZK {p : Prop} (h : p := by
 obtain ⟨j, rfl, hj, rfl, rfl, hK⟩ := hrel
 have HK := Lib.hid hK
 have hcnt := cnt_le (px := px) (py := py) (qx := px) (qy := qy) (l := corners b) j
 obtain ⟨nl, hnl⟩ := ZBE (lefts px py px qy ((corners b).take j))
 obtain ⟨nr, hnr⟩ := ZBE (rights px py px qy ((corners b).take j))
 rw [← hnl, ← hnr] at hcnt ⊢
 have HNN := Lib.hid (And.intro hnl hnr)
 have hnl4 : (nl : Int) ≤ 4 := by omega
 have hnr4 : (nr : Int) ≤ 4 := by omega
 clear hnl hnr
 by_cases hjl : j < 4
 ·obtain ⟨c, hc⟩ : ∃ c, (corners b)[j]? = some c := ⟨_, List.getElem?_eq_getElem (by show j < 4; omega)⟩
  obtain ⟨e0, e1⟩ := corner_cell (HB8.out.keeps hK (fun h => h)) hc
  have z := HT.out c (corner_on HO.out.1 hc)
  have cP := ((HO.out.2.1.keeps (HK8.out.trans hK) (fun h => h)).alloc (.cells #[.int .i32 c.1, .int .i32 c.2] 37)).cell
  have cQ := ((HO.out.2.2.1.keeps (HK8.out.trans hK) (fun h => h)).alloc (.cells #[.int .i32 c.1, .int .i32 c.2] 37)).cell
  have hjI : (j : Int) < 4 := by omega
  have hj0 : (0 : Int) ≤ j := by omega
  obtain ⟨tz, htz⟩ := ZBE (turnN px py px qy c.1 c.2)
  rw [← htz] at z
  have HC := Lib.hid (And.intro hc htz)
  have hl := lefts_at (px := px) (py := py) (qx := px) (qy := qy) hc
  have hr := rights_at (px := px) (py := py) (qx := px) (qy := qy) hc
  exact ZA
 ·obtain rfl : j = 4 := by omega
  have hm : meetsP px py px qy b ↔ (nl < 4 ∧ nr < 4) := by rw [HO.out.2.2.2, HNN.out.1, HNN.out.2]; rfl
  have HM := Lib.hid hm
  clear hm hK hcnt
  by_cases s1 : nl < 4
  ·have s1I : (nl : Int) < 4 := by omega
   by_cases s2 : nr < 4
   ·have s2I : (nr : Int) < 4 := by omega
    have Hpy := Lib.hid (show decide (meetsP px py px qy b) = true by rw [decide_eq_true_eq, HM.out]; exact ⟨s1, s2⟩)
    clear s1 s2
    go_wp2
    go_ret
    exact ⟨ZAn, HK8.out.trans HK.out⟩
   ·have s2I : ¬ (nr : Int) < 4 := by omega
    have Hpy := Lib.hid (show decide (meetsP px py px qy b) = false by rw [decide_eq_false_iff_not, HM.out]; exact fun h => s2 h.2)
    clear s1 s2
    go_wp2
    go_ret
    exact ⟨ZAn, HK8.out.trans HK.out⟩
  ·have s1I : ¬ (nl : Int) < 4 := by omega
   have Hpy := Lib.hid (show decide (meetsP px py px qy b) = false by rw [decide_eq_false_iff_not, HM.out]; exact fun h => s1 h.1)
   clear s1
   go_wp2
   go_ret
   exact ⟨ZAn, HK8.out.trans HK.out⟩) : p := h
open Go.RowKit Go.Shelf
namespace Fi
open Mem Gr Gs
theorem meets_by {px py qx qy : Int} {b : Bx} (ho : overP px py qx qy b) : meetsP px py qx qy b ↔ (lefts px py qx qy (corners b) < 4 ∧ rights px py qx qy (corners b) < 4) := by
 rw [lefts_4, rights_4]
 unfold meetsP
 exact ⟨fun h => ⟨h.2.1, h.2.2⟩, fun h => ⟨ho, h.1, h.2⟩⟩
def ptf (c : Int × Int) : List Value := [.int .i32 c.1, .int .i32 c.2]
theorem corner_cell {W : World} {B8 : Nat} {b : Bx} (h : Blk W B8 37 ((corners b).flatMap ptf)) {j : Nat} {c : Int × Int} (hc : (corners b)[j]? = some c) : W.cell? ⟨B8, j * 2, none⟩ = some (.int .i32 c.1) ∧ W.cell? ⟨B8, j * 2 + 1, none⟩ = some (.int .i32 c.2) := by
 have h0 := flat_cell (k := 2) (f := ptf) (fun x => rfl) (corners b) j 0 ZBP c hc
 have h1 := flat_cell (k := 2) (f := ptf) (fun x => rfl) (corners b) j 1 ZBP c hc
 rw [h.cell, h.cell, h1]
 rw [Nat.add_zero] at h0
 rw [h0]
 exact ⟨rfl, rfl⟩
theorem corner_on {b : Bx} (hb : Right b) {j : Nat} {c : Int × Int} (hc : (corners b)[j]? = some c) : On c.1 c.2 := by
 have hm := List.mem_of_getElem? hc
 obtain ⟨⟨a1, a2, a3, a4⟩, ⟨a5, a6, a7, a8⟩, _⟩ := hb
 unfold corners at hm
 simp only [List.mem_cons, List.not_mem_nil, or_false] at hm
 rcases hm with rfl | rfl | rfl | rfl <;> exact ⟨ZBV, ZBV, ZBV, ZBV⟩
theorem meets2_yes_ll (px py qx qy : Int) (b : Bx) (PB QB : Nat) (w : World) (hP : Blk w PB 37 [.int .i32 px, .int .i32 py]) (hQ : Blk w QB 37 [.int .i32 qx, .int .i32 qy]) (hp : On px py) (hq : On qx qy) (hb : Right b) (hx : px < qx) (hy : py < qy) (ho : overP px py qx qy b) :
 Calls Tryz.prog 87 #[.agg #[.int .i32 b.x0, .int .i32 b.y0, .int .i32 b.x1, .int .i32 b.y1], .pointer (some ⟨PB, 0, none⟩), .pointer (some ⟨QB, 0, none⟩)] w fun e w' => e = .returned (.bool (decide (meetsP px py qx qy b))) ∧ Keeps (fun _ => False) w w' := by
 have hmt := meets_by ho
 have cP := (hP.alloc (.cells #[.int .i32 b.x0, .int .i32 b.y0, .int .i32 b.x1, .int .i32 b.y1] 39)).cell
 have cQ := (hQ.alloc (.cells #[.int .i32 b.x0, .int .i32 b.y0, .int .i32 b.x1, .int .i32 b.y1] 39)).cell
 have HT := Lib.hid (fun (c : Int × Int) (hc : On c.1 c.2) w => turn_t px py qx qy c.1 c.2 hp hq hc w)
 have HO := Lib.hid (And.intro hb (And.intro hP (And.intro hQ hmt)))
 unfold overP at ho
 have dx : decide (px < qx) = true := decide_eq_true hx
 have nx : ¬ qx < px := by omega
 have dy : decide (py < qy) = true := decide_eq_true hy
 have ny : ¬ qy < py := by omega
 have h1 : ¬ qx < b.x0 := by omega
 have h2 : ¬ px > b.x1 := by omega
 have h3 : ¬ qy < b.y0 := by omega
 have h4 : ¬ py > b.y1 := by omega
 have d1 : decide (qx < b.x0) = false := decide_eq_false h1
 have d2 : decide (px > b.x1) = false := decide_eq_false h2
 have d2' : decide (b.x1 < px) = false := decide_eq_false h2
 have d3 : decide (qy < b.y0) = false := decide_eq_false h3
 have d4 : decide (py > b.y1) = false := decide_eq_false h4
 have d4' : decide (b.y1 < py) = false := decide_eq_false h4
 clear hP hQ ho hp hq hb hmt
 go_enter Tryz.func87, Tryz.ntmps87
 go_wp2
 have HK8 := Lib.hid (show Keeps (fun _ => False) w ((w.alloc (.cells #[.int .i32 b.x0, .int .i32 b.y0, .int .i32 b.x1, .int .i32 b.y1] 39)).alloc (.cells #[.int .i32 b.x0, .int .i32 b.y0, .int .i32 b.x1, .int .i32 b.y1, .int .i32 b.x0, .int .i32 b.y1, .int .i32 b.x1, .int .i32 b.y0] 37)) from ZBG)
 have b8 := Blk.new (w.alloc (.cells #[.int .i32 b.x0, .int .i32 b.y0, .int .i32 b.x1, .int .i32 b.y1] 39)) 37 [.int .i32 b.x0, .int .i32 b.y0, .int .i32 b.x1, .int .i32 b.y1, .int .i32 b.x0, .int .i32 b.y1, .int .i32 b.x1, .int .i32 b.y0]
 simp only [World.size_alloc] at b8
 obtain ⟨w8, hw8⟩ := ZBE (((w.alloc (.cells #[.int .i32 b.x0, .int .i32 b.y0, .int .i32 b.x1, .int .i32 b.y1] 39)).alloc (.cells #[.int .i32 b.x0, .int .i32 b.y0, .int .i32 b.x1, .int .i32 b.y1, .int .i32 b.x0, .int .i32 b.y1, .int .i32 b.x1, .int .i32 b.y0] 37)))
 have b8' : Blk w8 (w.heap.size + 1) 37 ((corners b).flatMap ptf) := by rw [hw8]; exact b8
 have HB8 := Lib.hid b8'
 rw [← hw8]
 rw [← hw8] at HK8
 obtain ⟨B8, hB8⟩ := ZBE (w.heap.size + 1)
 rw [← hB8]
 rw [← hB8] at HB8
 clear b8 b8' hw8 hB8 cP cQ d1 d2 d2' d3 d4 d4' h1 h2 h3 h4
 go_loopw [5, 6, 8, 71] (fun l r _ q wr => ∃ j : Nat, q = .int .i64 (j : Int) ∧ j ≤ 4 ∧ l = .int .i64 (lefts px py qx qy ((corners b).take j) : Int) ∧ r = .int .i64 (rights px py qx qy ((corners b).take j) : Int) ∧ Keeps (fun _ => False) w8 wr) (fun _ _ _ q _ => 4 - (intOf q).toNat)
 case atStart => exact ⟨0, rfl, Z8, rfl, rfl, Keeps.refl _ _⟩
 case round =>
  exact ZC
theorem meets2_yes_lg (px py qx qy : Int) (b : Bx) (PB QB : Nat) (w : World) (hP : Blk w PB 37 [.int .i32 px, .int .i32 py]) (hQ : Blk w QB 37 [.int .i32 qx, .int .i32 qy]) (hp : On px py) (hq : On qx qy) (hb : Right b) (hx : px < qx) (hy : qy < py) (ho : overP px py qx qy b) :
 Calls Tryz.prog 87 #[.agg #[.int .i32 b.x0, .int .i32 b.y0, .int .i32 b.x1, .int .i32 b.y1], .pointer (some ⟨PB, 0, none⟩), .pointer (some ⟨QB, 0, none⟩)] w fun e w' => e = .returned (.bool (decide (meetsP px py qx qy b))) ∧ Keeps (fun _ => False) w w' := by
 have hmt := meets_by ho
 have cP := (hP.alloc (.cells #[.int .i32 b.x0, .int .i32 b.y0, .int .i32 b.x1, .int .i32 b.y1] 39)).cell
 have cQ := (hQ.alloc (.cells #[.int .i32 b.x0, .int .i32 b.y0, .int .i32 b.x1, .int .i32 b.y1] 39)).cell
 have HT := Lib.hid (fun (c : Int × Int) (hc : On c.1 c.2) w => turn_t px py qx qy c.1 c.2 hp hq hc w)
 have HO := Lib.hid (And.intro hb (And.intro hP (And.intro hQ hmt)))
 unfold overP at ho
 have dx : decide (px < qx) = true := decide_eq_true hx
 have nx : ¬ qx < px := by omega
 have dy : decide (qy < py) = true := decide_eq_true hy
 have ny : ¬ py < qy := by omega
 have h1 : ¬ qx < b.x0 := by omega
 have h2 : ¬ px > b.x1 := by omega
 have h3 : ¬ py < b.y0 := by omega
 have h4 : ¬ qy > b.y1 := by omega
 have d1 : decide (qx < b.x0) = false := decide_eq_false h1
 have d2 : decide (px > b.x1) = false := decide_eq_false h2
 have d2' : decide (b.x1 < px) = false := decide_eq_false h2
 have d3 : decide (py < b.y0) = false := decide_eq_false h3
 have d4 : decide (qy > b.y1) = false := decide_eq_false h4
 have d4' : decide (b.y1 < qy) = false := decide_eq_false h4
 clear hP hQ ho hp hq hb hmt
 go_enter Tryz.func87, Tryz.ntmps87
 go_wp2
 have HK8 := Lib.hid (show Keeps (fun _ => False) w ((w.alloc (.cells #[.int .i32 b.x0, .int .i32 b.y0, .int .i32 b.x1, .int .i32 b.y1] 39)).alloc (.cells #[.int .i32 b.x0, .int .i32 b.y0, .int .i32 b.x1, .int .i32 b.y1, .int .i32 b.x0, .int .i32 b.y1, .int .i32 b.x1, .int .i32 b.y0] 37)) from ZBG)
 have b8 := Blk.new (w.alloc (.cells #[.int .i32 b.x0, .int .i32 b.y0, .int .i32 b.x1, .int .i32 b.y1] 39)) 37 [.int .i32 b.x0, .int .i32 b.y0, .int .i32 b.x1, .int .i32 b.y1, .int .i32 b.x0, .int .i32 b.y1, .int .i32 b.x1, .int .i32 b.y0]
 simp only [World.size_alloc] at b8
 obtain ⟨w8, hw8⟩ := ZBE (((w.alloc (.cells #[.int .i32 b.x0, .int .i32 b.y0, .int .i32 b.x1, .int .i32 b.y1] 39)).alloc (.cells #[.int .i32 b.x0, .int .i32 b.y0, .int .i32 b.x1, .int .i32 b.y1, .int .i32 b.x0, .int .i32 b.y1, .int .i32 b.x1, .int .i32 b.y0] 37)))
 have b8' : Blk w8 (w.heap.size + 1) 37 ((corners b).flatMap ptf) := by rw [hw8]; exact b8
 have HB8 := Lib.hid b8'
 rw [← hw8]
 rw [← hw8] at HK8
 obtain ⟨B8, hB8⟩ := ZBE (w.heap.size + 1)
 rw [← hB8]
 rw [← hB8] at HB8
 clear b8 b8' hw8 hB8 cP cQ d1 d2 d2' d3 d4 d4' h1 h2 h3 h4
 go_loopw [5, 6, 8, 71] (fun l r _ q wr => ∃ j : Nat, q = .int .i64 (j : Int) ∧ j ≤ 4 ∧ l = .int .i64 (lefts px py qx qy ((corners b).take j) : Int) ∧ r = .int .i64 (rights px py qx qy ((corners b).take j) : Int) ∧ Keeps (fun _ => False) w8 wr) (fun _ _ _ q _ => 4 - (intOf q).toNat)
 case atStart => exact ⟨0, rfl, Z8, rfl, rfl, Keeps.refl _ _⟩
 case round =>
  exact ZC
theorem meets2_yes_le (px py qx qy : Int) (b : Bx) (PB QB : Nat) (w : World) (hP : Blk w PB 37 [.int .i32 px, .int .i32 py]) (hQ : Blk w QB 37 [.int .i32 qx, .int .i32 qy]) (hp : On px py) (hq : On qx qy) (hb : Right b) (hx : px < qx) (hy : py = qy) (ho : overP px py qx qy b) :
 Calls Tryz.prog 87 #[.agg #[.int .i32 b.x0, .int .i32 b.y0, .int .i32 b.x1, .int .i32 b.y1], .pointer (some ⟨PB, 0, none⟩), .pointer (some ⟨QB, 0, none⟩)] w fun e w' => e = .returned (.bool (decide (meetsP px py qx qy b))) ∧ Keeps (fun _ => False) w w' := by
 have hmt := meets_by ho
 have cP := (hP.alloc (.cells #[.int .i32 b.x0, .int .i32 b.y0, .int .i32 b.x1, .int .i32 b.y1] 39)).cell
 have cQ := (hQ.alloc (.cells #[.int .i32 b.x0, .int .i32 b.y0, .int .i32 b.x1, .int .i32 b.y1] 39)).cell
 have HT := Lib.hid (fun (c : Int × Int) (hc : On c.1 c.2) w => turn_t px py qx qy c.1 c.2 hp hq hc w)
 have HO := Lib.hid (And.intro hb (And.intro hP (And.intro hQ hmt)))
 unfold overP at ho
 have dx : decide (px < qx) = true := decide_eq_true hx
 have nx : ¬ qx < px := by omega
 subst hy
 have h1 : ¬ qx < b.x0 := by omega
 have h2 : ¬ px > b.x1 := by omega
 have h3 : ¬ py < b.y0 := by omega
 have h4 : ¬ py > b.y1 := by omega
 have d1 : decide (qx < b.x0) = false := decide_eq_false h1
 have d2 : decide (px > b.x1) = false := decide_eq_false h2
 have d2' : decide (b.x1 < px) = false := decide_eq_false h2
 have d3 : decide (py < b.y0) = false := decide_eq_false h3
 have d4 : decide (py > b.y1) = false := decide_eq_false h4
 have d4' : decide (b.y1 < py) = false := decide_eq_false h4
 clear hP hQ ho hp hq hb hmt
 go_enter Tryz.func87, Tryz.ntmps87
 go_wp2
 have HK8 := Lib.hid (show Keeps (fun _ => False) w ((w.alloc (.cells #[.int .i32 b.x0, .int .i32 b.y0, .int .i32 b.x1, .int .i32 b.y1] 39)).alloc (.cells #[.int .i32 b.x0, .int .i32 b.y0, .int .i32 b.x1, .int .i32 b.y1, .int .i32 b.x0, .int .i32 b.y1, .int .i32 b.x1, .int .i32 b.y0] 37)) from ZBG)
 have b8 := Blk.new (w.alloc (.cells #[.int .i32 b.x0, .int .i32 b.y0, .int .i32 b.x1, .int .i32 b.y1] 39)) 37 [.int .i32 b.x0, .int .i32 b.y0, .int .i32 b.x1, .int .i32 b.y1, .int .i32 b.x0, .int .i32 b.y1, .int .i32 b.x1, .int .i32 b.y0]
 simp only [World.size_alloc] at b8
 obtain ⟨w8, hw8⟩ := ZBE (((w.alloc (.cells #[.int .i32 b.x0, .int .i32 b.y0, .int .i32 b.x1, .int .i32 b.y1] 39)).alloc (.cells #[.int .i32 b.x0, .int .i32 b.y0, .int .i32 b.x1, .int .i32 b.y1, .int .i32 b.x0, .int .i32 b.y1, .int .i32 b.x1, .int .i32 b.y0] 37)))
 have b8' : Blk w8 (w.heap.size + 1) 37 ((corners b).flatMap ptf) := by rw [hw8]; exact b8
 have HB8 := Lib.hid b8'
 rw [← hw8]
 rw [← hw8] at HK8
 obtain ⟨B8, hB8⟩ := ZBE (w.heap.size + 1)
 rw [← hB8]
 rw [← hB8] at HB8
 clear b8 b8' hw8 hB8 cP cQ d1 d2 d2' d3 d4 d4' h1 h2 h3 h4
 go_loopw [5, 6, 8, 71] (fun l r _ q wr => ∃ j : Nat, q = .int .i64 (j : Int) ∧ j ≤ 4 ∧ l = .int .i64 (lefts px py qx py ((corners b).take j) : Int) ∧ r = .int .i64 (rights px py qx py ((corners b).take j) : Int) ∧ Keeps (fun _ => False) w8 wr) (fun _ _ _ q _ => 4 - (intOf q).toNat)
 case atStart => exact ⟨0, rfl, Z8, rfl, rfl, Keeps.refl _ _⟩
 case round =>
  exact ZJ
theorem meets2_yes_gl (px py qx qy : Int) (b : Bx) (PB QB : Nat) (w : World) (hP : Blk w PB 37 [.int .i32 px, .int .i32 py]) (hQ : Blk w QB 37 [.int .i32 qx, .int .i32 qy]) (hp : On px py) (hq : On qx qy) (hb : Right b) (hx : qx < px) (hy : py < qy) (ho : overP px py qx qy b) :
 Calls Tryz.prog 87 #[.agg #[.int .i32 b.x0, .int .i32 b.y0, .int .i32 b.x1, .int .i32 b.y1], .pointer (some ⟨PB, 0, none⟩), .pointer (some ⟨QB, 0, none⟩)] w fun e w' => e = .returned (.bool (decide (meetsP px py qx qy b))) ∧ Keeps (fun _ => False) w w' := by
 have hmt := meets_by ho
 have cP := (hP.alloc (.cells #[.int .i32 b.x0, .int .i32 b.y0, .int .i32 b.x1, .int .i32 b.y1] 39)).cell
 have cQ := (hQ.alloc (.cells #[.int .i32 b.x0, .int .i32 b.y0, .int .i32 b.x1, .int .i32 b.y1] 39)).cell
 have HT := Lib.hid (fun (c : Int × Int) (hc : On c.1 c.2) w => turn_t px py qx qy c.1 c.2 hp hq hc w)
 have HO := Lib.hid (And.intro hb (And.intro hP (And.intro hQ hmt)))
 unfold overP at ho
 have dx : decide (qx < px) = true := decide_eq_true hx
 have nx : ¬ px < qx := by omega
 have dy : decide (py < qy) = true := decide_eq_true hy
 have ny : ¬ qy < py := by omega
 have h1 : ¬ px < b.x0 := by omega
 have h2 : ¬ qx > b.x1 := by omega
 have h3 : ¬ qy < b.y0 := by omega
 have h4 : ¬ py > b.y1 := by omega
 have d1 : decide (px < b.x0) = false := decide_eq_false h1
 have d2 : decide (qx > b.x1) = false := decide_eq_false h2
 have d2' : decide (b.x1 < qx) = false := decide_eq_false h2
 have d3 : decide (qy < b.y0) = false := decide_eq_false h3
 have d4 : decide (py > b.y1) = false := decide_eq_false h4
 have d4' : decide (b.y1 < py) = false := decide_eq_false h4
 clear hP hQ ho hp hq hb hmt
 go_enter Tryz.func87, Tryz.ntmps87
 go_wp2
 have HK8 := Lib.hid (show Keeps (fun _ => False) w ((w.alloc (.cells #[.int .i32 b.x0, .int .i32 b.y0, .int .i32 b.x1, .int .i32 b.y1] 39)).alloc (.cells #[.int .i32 b.x0, .int .i32 b.y0, .int .i32 b.x1, .int .i32 b.y1, .int .i32 b.x0, .int .i32 b.y1, .int .i32 b.x1, .int .i32 b.y0] 37)) from ZBG)
 have b8 := Blk.new (w.alloc (.cells #[.int .i32 b.x0, .int .i32 b.y0, .int .i32 b.x1, .int .i32 b.y1] 39)) 37 [.int .i32 b.x0, .int .i32 b.y0, .int .i32 b.x1, .int .i32 b.y1, .int .i32 b.x0, .int .i32 b.y1, .int .i32 b.x1, .int .i32 b.y0]
 simp only [World.size_alloc] at b8
 obtain ⟨w8, hw8⟩ := ZBE (((w.alloc (.cells #[.int .i32 b.x0, .int .i32 b.y0, .int .i32 b.x1, .int .i32 b.y1] 39)).alloc (.cells #[.int .i32 b.x0, .int .i32 b.y0, .int .i32 b.x1, .int .i32 b.y1, .int .i32 b.x0, .int .i32 b.y1, .int .i32 b.x1, .int .i32 b.y0] 37)))
 have b8' : Blk w8 (w.heap.size + 1) 37 ((corners b).flatMap ptf) := by rw [hw8]; exact b8
 have HB8 := Lib.hid b8'
 rw [← hw8]
 rw [← hw8] at HK8
 obtain ⟨B8, hB8⟩ := ZBE (w.heap.size + 1)
 rw [← hB8]
 rw [← hB8] at HB8
 clear b8 b8' hw8 hB8 cP cQ d1 d2 d2' d3 d4 d4' h1 h2 h3 h4
 go_loopw [5, 6, 8, 71] (fun l r _ q wr => ∃ j : Nat, q = .int .i64 (j : Int) ∧ j ≤ 4 ∧ l = .int .i64 (lefts px py qx qy ((corners b).take j) : Int) ∧ r = .int .i64 (rights px py qx qy ((corners b).take j) : Int) ∧ Keeps (fun _ => False) w8 wr) (fun _ _ _ q _ => 4 - (intOf q).toNat)
 case atStart => exact ⟨0, rfl, Z8, rfl, rfl, Keeps.refl _ _⟩
 case round =>
  exact ZC
theorem meets2_yes_gg (px py qx qy : Int) (b : Bx) (PB QB : Nat) (w : World) (hP : Blk w PB 37 [.int .i32 px, .int .i32 py]) (hQ : Blk w QB 37 [.int .i32 qx, .int .i32 qy]) (hp : On px py) (hq : On qx qy) (hb : Right b) (hx : qx < px) (hy : qy < py) (ho : overP px py qx qy b) :
 Calls Tryz.prog 87 #[.agg #[.int .i32 b.x0, .int .i32 b.y0, .int .i32 b.x1, .int .i32 b.y1], .pointer (some ⟨PB, 0, none⟩), .pointer (some ⟨QB, 0, none⟩)] w fun e w' => e = .returned (.bool (decide (meetsP px py qx qy b))) ∧ Keeps (fun _ => False) w w' := by
 have hmt := meets_by ho
 have cP := (hP.alloc (.cells #[.int .i32 b.x0, .int .i32 b.y0, .int .i32 b.x1, .int .i32 b.y1] 39)).cell
 have cQ := (hQ.alloc (.cells #[.int .i32 b.x0, .int .i32 b.y0, .int .i32 b.x1, .int .i32 b.y1] 39)).cell
 have HT := Lib.hid (fun (c : Int × Int) (hc : On c.1 c.2) w => turn_t px py qx qy c.1 c.2 hp hq hc w)
 have HO := Lib.hid (And.intro hb (And.intro hP (And.intro hQ hmt)))
 unfold overP at ho
 have dx : decide (qx < px) = true := decide_eq_true hx
 have nx : ¬ px < qx := by omega
 have dy : decide (qy < py) = true := decide_eq_true hy
 have ny : ¬ py < qy := by omega
 have h1 : ¬ px < b.x0 := by omega
 have h2 : ¬ qx > b.x1 := by omega
 have h3 : ¬ py < b.y0 := by omega
 have h4 : ¬ qy > b.y1 := by omega
 have d1 : decide (px < b.x0) = false := decide_eq_false h1
 have d2 : decide (qx > b.x1) = false := decide_eq_false h2
 have d2' : decide (b.x1 < qx) = false := decide_eq_false h2
 have d3 : decide (py < b.y0) = false := decide_eq_false h3
 have d4 : decide (qy > b.y1) = false := decide_eq_false h4
 have d4' : decide (b.y1 < qy) = false := decide_eq_false h4
 clear hP hQ ho hp hq hb hmt
 go_enter Tryz.func87, Tryz.ntmps87
 go_wp2
 have HK8 := Lib.hid (show Keeps (fun _ => False) w ((w.alloc (.cells #[.int .i32 b.x0, .int .i32 b.y0, .int .i32 b.x1, .int .i32 b.y1] 39)).alloc (.cells #[.int .i32 b.x0, .int .i32 b.y0, .int .i32 b.x1, .int .i32 b.y1, .int .i32 b.x0, .int .i32 b.y1, .int .i32 b.x1, .int .i32 b.y0] 37)) from ZBG)
 have b8 := Blk.new (w.alloc (.cells #[.int .i32 b.x0, .int .i32 b.y0, .int .i32 b.x1, .int .i32 b.y1] 39)) 37 [.int .i32 b.x0, .int .i32 b.y0, .int .i32 b.x1, .int .i32 b.y1, .int .i32 b.x0, .int .i32 b.y1, .int .i32 b.x1, .int .i32 b.y0]
 simp only [World.size_alloc] at b8
 obtain ⟨w8, hw8⟩ := ZBE (((w.alloc (.cells #[.int .i32 b.x0, .int .i32 b.y0, .int .i32 b.x1, .int .i32 b.y1] 39)).alloc (.cells #[.int .i32 b.x0, .int .i32 b.y0, .int .i32 b.x1, .int .i32 b.y1, .int .i32 b.x0, .int .i32 b.y1, .int .i32 b.x1, .int .i32 b.y0] 37)))
 have b8' : Blk w8 (w.heap.size + 1) 37 ((corners b).flatMap ptf) := by rw [hw8]; exact b8
 have HB8 := Lib.hid b8'
 rw [← hw8]
 rw [← hw8] at HK8
 obtain ⟨B8, hB8⟩ := ZBE (w.heap.size + 1)
 rw [← hB8]
 rw [← hB8] at HB8
 clear b8 b8' hw8 hB8 cP cQ d1 d2 d2' d3 d4 d4' h1 h2 h3 h4
 go_loopw [5, 6, 8, 71] (fun l r _ q wr => ∃ j : Nat, q = .int .i64 (j : Int) ∧ j ≤ 4 ∧ l = .int .i64 (lefts px py qx qy ((corners b).take j) : Int) ∧ r = .int .i64 (rights px py qx qy ((corners b).take j) : Int) ∧ Keeps (fun _ => False) w8 wr) (fun _ _ _ q _ => 4 - (intOf q).toNat)
 case atStart => exact ⟨0, rfl, Z8, rfl, rfl, Keeps.refl _ _⟩
 case round =>
  exact ZC
theorem meets2_yes_ge (px py qx qy : Int) (b : Bx) (PB QB : Nat) (w : World) (hP : Blk w PB 37 [.int .i32 px, .int .i32 py]) (hQ : Blk w QB 37 [.int .i32 qx, .int .i32 qy]) (hp : On px py) (hq : On qx qy) (hb : Right b) (hx : qx < px) (hy : py = qy) (ho : overP px py qx qy b) :
 Calls Tryz.prog 87 #[.agg #[.int .i32 b.x0, .int .i32 b.y0, .int .i32 b.x1, .int .i32 b.y1], .pointer (some ⟨PB, 0, none⟩), .pointer (some ⟨QB, 0, none⟩)] w fun e w' => e = .returned (.bool (decide (meetsP px py qx qy b))) ∧ Keeps (fun _ => False) w w' := by
 have hmt := meets_by ho
 have cP := (hP.alloc (.cells #[.int .i32 b.x0, .int .i32 b.y0, .int .i32 b.x1, .int .i32 b.y1] 39)).cell
 have cQ := (hQ.alloc (.cells #[.int .i32 b.x0, .int .i32 b.y0, .int .i32 b.x1, .int .i32 b.y1] 39)).cell
 have HT := Lib.hid (fun (c : Int × Int) (hc : On c.1 c.2) w => turn_t px py qx qy c.1 c.2 hp hq hc w)
 have HO := Lib.hid (And.intro hb (And.intro hP (And.intro hQ hmt)))
 unfold overP at ho
 have dx : decide (qx < px) = true := decide_eq_true hx
 have nx : ¬ px < qx := by omega
 subst hy
 have h1 : ¬ px < b.x0 := by omega
 have h2 : ¬ qx > b.x1 := by omega
 have h3 : ¬ py < b.y0 := by omega
 have h4 : ¬ py > b.y1 := by omega
 have d1 : decide (px < b.x0) = false := decide_eq_false h1
 have d2 : decide (qx > b.x1) = false := decide_eq_false h2
 have d2' : decide (b.x1 < qx) = false := decide_eq_false h2
 have d3 : decide (py < b.y0) = false := decide_eq_false h3
 have d4 : decide (py > b.y1) = false := decide_eq_false h4
 have d4' : decide (b.y1 < py) = false := decide_eq_false h4
 clear hP hQ ho hp hq hb hmt
 go_enter Tryz.func87, Tryz.ntmps87
 go_wp2
 have HK8 := Lib.hid (show Keeps (fun _ => False) w ((w.alloc (.cells #[.int .i32 b.x0, .int .i32 b.y0, .int .i32 b.x1, .int .i32 b.y1] 39)).alloc (.cells #[.int .i32 b.x0, .int .i32 b.y0, .int .i32 b.x1, .int .i32 b.y1, .int .i32 b.x0, .int .i32 b.y1, .int .i32 b.x1, .int .i32 b.y0] 37)) from ZBG)
 have b8 := Blk.new (w.alloc (.cells #[.int .i32 b.x0, .int .i32 b.y0, .int .i32 b.x1, .int .i32 b.y1] 39)) 37 [.int .i32 b.x0, .int .i32 b.y0, .int .i32 b.x1, .int .i32 b.y1, .int .i32 b.x0, .int .i32 b.y1, .int .i32 b.x1, .int .i32 b.y0]
 simp only [World.size_alloc] at b8
 obtain ⟨w8, hw8⟩ := ZBE (((w.alloc (.cells #[.int .i32 b.x0, .int .i32 b.y0, .int .i32 b.x1, .int .i32 b.y1] 39)).alloc (.cells #[.int .i32 b.x0, .int .i32 b.y0, .int .i32 b.x1, .int .i32 b.y1, .int .i32 b.x0, .int .i32 b.y1, .int .i32 b.x1, .int .i32 b.y0] 37)))
 have b8' : Blk w8 (w.heap.size + 1) 37 ((corners b).flatMap ptf) := by rw [hw8]; exact b8
 have HB8 := Lib.hid b8'
 rw [← hw8]
 rw [← hw8] at HK8
 obtain ⟨B8, hB8⟩ := ZBE (w.heap.size + 1)
 rw [← hB8]
 rw [← hB8] at HB8
 clear b8 b8' hw8 hB8 cP cQ d1 d2 d2' d3 d4 d4' h1 h2 h3 h4
 go_loopw [5, 6, 8, 71] (fun l r _ q wr => ∃ j : Nat, q = .int .i64 (j : Int) ∧ j ≤ 4 ∧ l = .int .i64 (lefts px py qx py ((corners b).take j) : Int) ∧ r = .int .i64 (rights px py qx py ((corners b).take j) : Int) ∧ Keeps (fun _ => False) w8 wr) (fun _ _ _ q _ => 4 - (intOf q).toNat)
 case atStart => exact ⟨0, rfl, Z8, rfl, rfl, Keeps.refl _ _⟩
 case round =>
  exact ZJ
theorem meets2_yes_el (px py qx qy : Int) (b : Bx) (PB QB : Nat) (w : World) (hP : Blk w PB 37 [.int .i32 px, .int .i32 py]) (hQ : Blk w QB 37 [.int .i32 qx, .int .i32 qy]) (hp : On px py) (hq : On qx qy) (hb : Right b) (hx : px = qx) (hy : py < qy) (ho : overP px py qx qy b) :
 Calls Tryz.prog 87 #[.agg #[.int .i32 b.x0, .int .i32 b.y0, .int .i32 b.x1, .int .i32 b.y1], .pointer (some ⟨PB, 0, none⟩), .pointer (some ⟨QB, 0, none⟩)] w fun e w' => e = .returned (.bool (decide (meetsP px py qx qy b))) ∧ Keeps (fun _ => False) w w' := by
 have hmt := meets_by ho
 have cP := (hP.alloc (.cells #[.int .i32 b.x0, .int .i32 b.y0, .int .i32 b.x1, .int .i32 b.y1] 39)).cell
 have cQ := (hQ.alloc (.cells #[.int .i32 b.x0, .int .i32 b.y0, .int .i32 b.x1, .int .i32 b.y1] 39)).cell
 have HT := Lib.hid (fun (c : Int × Int) (hc : On c.1 c.2) w => turn_t px py qx qy c.1 c.2 hp hq hc w)
 have HO := Lib.hid (And.intro hb (And.intro hP (And.intro hQ hmt)))
 unfold overP at ho
 subst hx
 have dy : decide (py < qy) = true := decide_eq_true hy
 have ny : ¬ qy < py := by omega
 have h1 : ¬ px < b.x0 := by omega
 have h2 : ¬ px > b.x1 := by omega
 have h3 : ¬ qy < b.y0 := by omega
 have h4 : ¬ py > b.y1 := by omega
 have d1 : decide (px < b.x0) = false := decide_eq_false h1
 have d2 : decide (px > b.x1) = false := decide_eq_false h2
 have d2' : decide (b.x1 < px) = false := decide_eq_false h2
 have d3 : decide (qy < b.y0) = false := decide_eq_false h3
 have d4 : decide (py > b.y1) = false := decide_eq_false h4
 have d4' : decide (b.y1 < py) = false := decide_eq_false h4
 clear hP hQ ho hp hq hb hmt
 go_enter Tryz.func87, Tryz.ntmps87
 go_wp2
 have HK8 := Lib.hid (show Keeps (fun _ => False) w ((w.alloc (.cells #[.int .i32 b.x0, .int .i32 b.y0, .int .i32 b.x1, .int .i32 b.y1] 39)).alloc (.cells #[.int .i32 b.x0, .int .i32 b.y0, .int .i32 b.x1, .int .i32 b.y1, .int .i32 b.x0, .int .i32 b.y1, .int .i32 b.x1, .int .i32 b.y0] 37)) from ZBG)
 have b8 := Blk.new (w.alloc (.cells #[.int .i32 b.x0, .int .i32 b.y0, .int .i32 b.x1, .int .i32 b.y1] 39)) 37 [.int .i32 b.x0, .int .i32 b.y0, .int .i32 b.x1, .int .i32 b.y1, .int .i32 b.x0, .int .i32 b.y1, .int .i32 b.x1, .int .i32 b.y0]
 simp only [World.size_alloc] at b8
 obtain ⟨w8, hw8⟩ := ZBE (((w.alloc (.cells #[.int .i32 b.x0, .int .i32 b.y0, .int .i32 b.x1, .int .i32 b.y1] 39)).alloc (.cells #[.int .i32 b.x0, .int .i32 b.y0, .int .i32 b.x1, .int .i32 b.y1, .int .i32 b.x0, .int .i32 b.y1, .int .i32 b.x1, .int .i32 b.y0] 37)))
 have b8' : Blk w8 (w.heap.size + 1) 37 ((corners b).flatMap ptf) := by rw [hw8]; exact b8
 have HB8 := Lib.hid b8'
 rw [← hw8]
 rw [← hw8] at HK8
 obtain ⟨B8, hB8⟩ := ZBE (w.heap.size + 1)
 rw [← hB8]
 rw [← hB8] at HB8
 clear b8 b8' hw8 hB8 cP cQ d1 d2 d2' d3 d4 d4' h1 h2 h3 h4
 go_loopw [5, 6, 8, 71] (fun l r _ q wr => ∃ j : Nat, q = .int .i64 (j : Int) ∧ j ≤ 4 ∧ l = .int .i64 (lefts px py px qy ((corners b).take j) : Int) ∧ r = .int .i64 (rights px py px qy ((corners b).take j) : Int) ∧ Keeps (fun _ => False) w8 wr) (fun _ _ _ q _ => 4 - (intOf q).toNat)
 case atStart => exact ⟨0, rfl, Z8, rfl, rfl, Keeps.refl _ _⟩
 case round =>
  exact ZK
theorem meets2_yes_eg (px py qx qy : Int) (b : Bx) (PB QB : Nat) (w : World) (hP : Blk w PB 37 [.int .i32 px, .int .i32 py]) (hQ : Blk w QB 37 [.int .i32 qx, .int .i32 qy]) (hp : On px py) (hq : On qx qy) (hb : Right b) (hx : px = qx) (hy : qy < py) (ho : overP px py qx qy b) :
 Calls Tryz.prog 87 #[.agg #[.int .i32 b.x0, .int .i32 b.y0, .int .i32 b.x1, .int .i32 b.y1], .pointer (some ⟨PB, 0, none⟩), .pointer (some ⟨QB, 0, none⟩)] w fun e w' => e = .returned (.bool (decide (meetsP px py qx qy b))) ∧ Keeps (fun _ => False) w w' := by
 have hmt := meets_by ho
 have cP := (hP.alloc (.cells #[.int .i32 b.x0, .int .i32 b.y0, .int .i32 b.x1, .int .i32 b.y1] 39)).cell
 have cQ := (hQ.alloc (.cells #[.int .i32 b.x0, .int .i32 b.y0, .int .i32 b.x1, .int .i32 b.y1] 39)).cell
 have HT := Lib.hid (fun (c : Int × Int) (hc : On c.1 c.2) w => turn_t px py qx qy c.1 c.2 hp hq hc w)
 have HO := Lib.hid (And.intro hb (And.intro hP (And.intro hQ hmt)))
 unfold overP at ho
 subst hx
 have dy : decide (qy < py) = true := decide_eq_true hy
 have ny : ¬ py < qy := by omega
 have h1 : ¬ px < b.x0 := by omega
 have h2 : ¬ px > b.x1 := by omega
 have h3 : ¬ py < b.y0 := by omega
 have h4 : ¬ qy > b.y1 := by omega
 have d1 : decide (px < b.x0) = false := decide_eq_false h1
 have d2 : decide (px > b.x1) = false := decide_eq_false h2
 have d2' : decide (b.x1 < px) = false := decide_eq_false h2
 have d3 : decide (py < b.y0) = false := decide_eq_false h3
 have d4 : decide (qy > b.y1) = false := decide_eq_false h4
 have d4' : decide (b.y1 < qy) = false := decide_eq_false h4
 clear hP hQ ho hp hq hb hmt
 go_enter Tryz.func87, Tryz.ntmps87
 go_wp2
 have HK8 := Lib.hid (show Keeps (fun _ => False) w ((w.alloc (.cells #[.int .i32 b.x0, .int .i32 b.y0, .int .i32 b.x1, .int .i32 b.y1] 39)).alloc (.cells #[.int .i32 b.x0, .int .i32 b.y0, .int .i32 b.x1, .int .i32 b.y1, .int .i32 b.x0, .int .i32 b.y1, .int .i32 b.x1, .int .i32 b.y0] 37)) from ZBG)
 have b8 := Blk.new (w.alloc (.cells #[.int .i32 b.x0, .int .i32 b.y0, .int .i32 b.x1, .int .i32 b.y1] 39)) 37 [.int .i32 b.x0, .int .i32 b.y0, .int .i32 b.x1, .int .i32 b.y1, .int .i32 b.x0, .int .i32 b.y1, .int .i32 b.x1, .int .i32 b.y0]
 simp only [World.size_alloc] at b8
 obtain ⟨w8, hw8⟩ := ZBE (((w.alloc (.cells #[.int .i32 b.x0, .int .i32 b.y0, .int .i32 b.x1, .int .i32 b.y1] 39)).alloc (.cells #[.int .i32 b.x0, .int .i32 b.y0, .int .i32 b.x1, .int .i32 b.y1, .int .i32 b.x0, .int .i32 b.y1, .int .i32 b.x1, .int .i32 b.y0] 37)))
 have b8' : Blk w8 (w.heap.size + 1) 37 ((corners b).flatMap ptf) := by rw [hw8]; exact b8
 have HB8 := Lib.hid b8'
 rw [← hw8]
 rw [← hw8] at HK8
 obtain ⟨B8, hB8⟩ := ZBE (w.heap.size + 1)
 rw [← hB8]
 rw [← hB8] at HB8
 clear b8 b8' hw8 hB8 cP cQ d1 d2 d2' d3 d4 d4' h1 h2 h3 h4
 go_loopw [5, 6, 8, 71] (fun l r _ q wr => ∃ j : Nat, q = .int .i64 (j : Int) ∧ j ≤ 4 ∧ l = .int .i64 (lefts px py px qy ((corners b).take j) : Int) ∧ r = .int .i64 (rights px py px qy ((corners b).take j) : Int) ∧ Keeps (fun _ => False) w8 wr) (fun _ _ _ q _ => 4 - (intOf q).toNat)
 case atStart => exact ⟨0, rfl, Z8, rfl, rfl, Keeps.refl _ _⟩
 case round =>
  exact ZK
theorem meets2_yes_ee (px py qx qy : Int) (b : Bx) (PB QB : Nat) (w : World) (hP : Blk w PB 37 [.int .i32 px, .int .i32 py]) (hQ : Blk w QB 37 [.int .i32 qx, .int .i32 qy]) (hp : On px py) (hq : On qx qy) (hb : Right b) (hx : px = qx) (hy : py = qy) (ho : overP px py qx qy b) :
 Calls Tryz.prog 87 #[.agg #[.int .i32 b.x0, .int .i32 b.y0, .int .i32 b.x1, .int .i32 b.y1], .pointer (some ⟨PB, 0, none⟩), .pointer (some ⟨QB, 0, none⟩)] w fun e w' => e = .returned (.bool (decide (meetsP px py qx qy b))) ∧ Keeps (fun _ => False) w w' := by
 have hmt := meets_by ho
 have cP := (hP.alloc (.cells #[.int .i32 b.x0, .int .i32 b.y0, .int .i32 b.x1, .int .i32 b.y1] 39)).cell
 have cQ := (hQ.alloc (.cells #[.int .i32 b.x0, .int .i32 b.y0, .int .i32 b.x1, .int .i32 b.y1] 39)).cell
 have HT := Lib.hid (fun (c : Int × Int) (hc : On c.1 c.2) w => turn_t px py qx qy c.1 c.2 hp hq hc w)
 have HO := Lib.hid (And.intro hb (And.intro hP (And.intro hQ hmt)))
 unfold overP at ho
 subst hx
 subst hy
 have h1 : ¬ px < b.x0 := by omega
 have h2 : ¬ px > b.x1 := by omega
 have h3 : ¬ py < b.y0 := by omega
 have h4 : ¬ py > b.y1 := by omega
 have d1 : decide (px < b.x0) = false := decide_eq_false h1
 have d2 : decide (px > b.x1) = false := decide_eq_false h2
 have d2' : decide (b.x1 < px) = false := decide_eq_false h2
 have d3 : decide (py < b.y0) = false := decide_eq_false h3
 have d4 : decide (py > b.y1) = false := decide_eq_false h4
 have d4' : decide (b.y1 < py) = false := decide_eq_false h4
 clear hP hQ ho hp hq hb hmt
 go_enter Tryz.func87, Tryz.ntmps87
 go_wp2
 have HK8 := Lib.hid (show Keeps (fun _ => False) w ((w.alloc (.cells #[.int .i32 b.x0, .int .i32 b.y0, .int .i32 b.x1, .int .i32 b.y1] 39)).alloc (.cells #[.int .i32 b.x0, .int .i32 b.y0, .int .i32 b.x1, .int .i32 b.y1, .int .i32 b.x0, .int .i32 b.y1, .int .i32 b.x1, .int .i32 b.y0] 37)) from ZBG)
 have b8 := Blk.new (w.alloc (.cells #[.int .i32 b.x0, .int .i32 b.y0, .int .i32 b.x1, .int .i32 b.y1] 39)) 37 [.int .i32 b.x0, .int .i32 b.y0, .int .i32 b.x1, .int .i32 b.y1, .int .i32 b.x0, .int .i32 b.y1, .int .i32 b.x1, .int .i32 b.y0]
 simp only [World.size_alloc] at b8
 obtain ⟨w8, hw8⟩ := ZBE (((w.alloc (.cells #[.int .i32 b.x0, .int .i32 b.y0, .int .i32 b.x1, .int .i32 b.y1] 39)).alloc (.cells #[.int .i32 b.x0, .int .i32 b.y0, .int .i32 b.x1, .int .i32 b.y1, .int .i32 b.x0, .int .i32 b.y1, .int .i32 b.x1, .int .i32 b.y0] 37)))
 have b8' : Blk w8 (w.heap.size + 1) 37 ((corners b).flatMap ptf) := by rw [hw8]; exact b8
 have HB8 := Lib.hid b8'
 rw [← hw8]
 rw [← hw8] at HK8
 obtain ⟨B8, hB8⟩ := ZBE (w.heap.size + 1)
 rw [← hB8]
 rw [← hB8] at HB8
 clear b8 b8' hw8 hB8 cP cQ d1 d2 d2' d3 d4 d4' h1 h2 h3 h4
 go_loopw [5, 6, 8, 71] (fun l r _ q wr => ∃ j : Nat, q = .int .i64 (j : Int) ∧ j ≤ 4 ∧ l = .int .i64 (lefts px py px py ((corners b).take j) : Int) ∧ r = .int .i64 (rights px py px py ((corners b).take j) : Int) ∧ Keeps (fun _ => False) w8 wr) (fun _ _ _ q _ => 4 - (intOf q).toNat)
 case atStart => exact ⟨0, rfl, Z8, rfl, rfl, Keeps.refl _ _⟩
 case round =>
  obtain ⟨j, rfl, hj, rfl, rfl, hK⟩ := hrel
  have HK := Lib.hid hK
  have hcnt := cnt_le (px := px) (py := py) (qx := px) (qy := py) (l := corners b) j
  obtain ⟨nl, hnl⟩ := ZBE (lefts px py px py ((corners b).take j))
  obtain ⟨nr, hnr⟩ := ZBE (rights px py px py ((corners b).take j))
  rw [← hnl, ← hnr] at hcnt ⊢
  have HNN := Lib.hid (And.intro hnl hnr)
  have hnl4 : (nl : Int) ≤ 4 := by omega
  have hnr4 : (nr : Int) ≤ 4 := by omega
  clear hnl hnr
  by_cases hjl : j < 4
  ·obtain ⟨c, hc⟩ : ∃ c, (corners b)[j]? = some c := ⟨_, List.getElem?_eq_getElem (by show j < 4; omega)⟩
   obtain ⟨e0, e1⟩ := corner_cell (HB8.out.keeps hK (fun h => h)) hc
   have z := HT.out c (corner_on HO.out.1 hc)
   have cP := ((HO.out.2.1.keeps (HK8.out.trans hK) (fun h => h)).alloc (.cells #[.int .i32 c.1, .int .i32 c.2] 37)).cell
   have cQ := ((HO.out.2.2.1.keeps (HK8.out.trans hK) (fun h => h)).alloc (.cells #[.int .i32 c.1, .int .i32 c.2] 37)).cell
   have hjI : (j : Int) < 4 := by omega
   have hj0 : (0 : Int) ≤ j := by omega
   obtain ⟨tz, htz⟩ := ZBE (turnN px py px py c.1 c.2)
   rw [← htz] at z
   have HC := Lib.hid (And.intro hc htz)
   have hl := lefts_at (px := px) (py := py) (qx := px) (qy := py) hc
   have hr := rights_at (px := px) (py := py) (qx := px) (qy := py) hc
   exact ZA
  ·obtain rfl : j = 4 := by omega
   have hm : meetsP px py px py b ↔ (nl < 4 ∧ nr < 4) := by rw [HO.out.2.2.2, HNN.out.1, HNN.out.2]; rfl
   have HM := Lib.hid hm
   clear hm hK hcnt
   by_cases s1 : nl < 4
   ·have s1I : (nl : Int) < 4 := by omega
    by_cases s2 : nr < 4
    ·have s2I : (nr : Int) < 4 := by omega
     have Hpy := Lib.hid (show decide (meetsP px py px py b) = true by rw [decide_eq_true_eq, HM.out]; exact ⟨s1, s2⟩)
     clear s1 s2
     go_wp2
     go_ret
     exact ⟨ZAn, HK8.out.trans HK.out⟩
    ·have s2I : ¬ (nr : Int) < 4 := by omega
     have Hpy := Lib.hid (show decide (meetsP px py px py b) = false by rw [decide_eq_false_iff_not, HM.out]; exact fun h => s2 h.2)
     clear s1 s2
     go_wp2
     go_ret
     exact ⟨ZAn, HK8.out.trans HK.out⟩
   ·have s1I : ¬ (nl : Int) < 4 := by omega
    have Hpy := Lib.hid (show decide (meetsP px py px py b) = false by rw [decide_eq_false_iff_not, HM.out]; exact fun h => s1 h.1)
    clear s1
    go_wp2
    go_ret
    exact ⟨ZAn, HK8.out.trans HK.out⟩
theorem meets2_t (px py qx qy : Int) (b : Bx) (PB QB : Nat) (w : World) (hP : Blk w PB 37 [.int .i32 px, .int .i32 py]) (hQ : Blk w QB 37 [.int .i32 qx, .int .i32 qy]) (hp : On px py) (hq : On qx qy) (hb : Right b) :
 Calls Tryz.prog 87 #[.agg #[.int .i32 b.x0, .int .i32 b.y0, .int .i32 b.x1, .int .i32 b.y1], .pointer (some ⟨PB, 0, none⟩), .pointer (some ⟨QB, 0, none⟩)] w fun e w' => e = .returned (.bool (decide (meetsP px py qx qy b))) ∧ Keeps (fun _ => False) w w' := by
 by_cases ho : overP px py qx qy b
 ·rcases Int.lt_trichotomy px qx with hx | hx | hx <;> rcases Int.lt_trichotomy py qy with hy | hy | hy
  ·exact meets2_yes_ll px py qx qy b PB QB w hP hQ hp hq hb hx hy ho
  ·exact meets2_yes_le px py qx qy b PB QB w hP hQ hp hq hb hx hy ho
  ·exact meets2_yes_lg px py qx qy b PB QB w hP hQ hp hq hb hx hy ho
  ·exact meets2_yes_el px py qx qy b PB QB w hP hQ hp hq hb hx hy ho
  ·exact meets2_yes_ee px py qx qy b PB QB w hP hQ hp hq hb hx hy ho
  ·exact meets2_yes_eg px py qx qy b PB QB w hP hQ hp hq hb hx hy ho
  ·exact meets2_yes_gl px py qx qy b PB QB w hP hQ hp hq hb hx hy ho
  ·exact meets2_yes_ge px py qx qy b PB QB w hP hQ hp hq hb hx hy ho
  ·exact meets2_yes_gg px py qx qy b PB QB w hP hQ hp hq hb hx hy ho
 ·have hm : ¬ meetsP px py qx qy b := fun h => ho h.1
  rw [decide_eq_false hm]
  exact meets2_no px py qx qy b PB QB w hP hQ ho
end Fi
end Go.Proofs.YtdbpfbokfmpgcaaGreat
