/-
  RefF: Put's shift, one round; its lists.
-/
import Derived.Test.YtndghakagogmcaaRefD
import Derived.Test.YtndghakagogmcaaHeld2
import Derived.Test.YtndghakagogmcaaFr181
namespace Go.Proofs.Ytndghakagogmcaa
open Go.RowKit Go.Shelf
set_option linter.unusedVariables false
set_option linter.unusedSimpArgs false
attribute [local go_sem] Oper.semAt_some
namespace Mem
set_option maxHeartbeats 2000000 in
set_option maxRecDepth 100000 in
theorem frames98 {P : Act → Prop} (hP : ∀ u0 u1 u2 u3 u4 u5 u6 u7 u8 u9 u10 u11 u12 u13 u14 u15 u16 u17 u18 u19 u20 u21 u22 u23 u24 u25 u26 u27 u28 u29 u30 u31 u32 u33 u34 u35 u36 u37 u38 u39 u40 u41 u42 u43 u44 u45 u46 u47 u48 u49 u50 u51 u52 u53 u54 u55 u56 u57 u58 u59 u60 u61 u62 u63 u64 u65 u66 u67 u68 u69 u70 u71 u72 u73 u74 u75 u76 u77 u78 u79 u80 u81 u82 u83 u84 u85 u86 u87 u88 u89 u90 u91 u92 u93 u94 u95 u96 u97 : Value, P ⟨#[u0, u1, u2, u3, u4, u5, u6, u7, u8, u9, u10, u11, u12, u13, u14, u15, u16, u17, u18, u19, u20, u21, u22, u23, u24, u25, u26, u27, u28, u29, u30, u31, u32, u33, u34, u35, u36, u37, u38, u39, u40, u41, u42, u43, u44, u45, u46, u47, u48, u49, u50, u51, u52, u53, u54, u55, u56, u57, u58, u59, u60, u61, u62, u63, u64, u65, u66, u67, u68, u69, u70, u71, u72, u73, u74, u75, u76, u77, u78, u79, u80, u81, u82, u83, u84, u85, u86, u87, u88, u89, u90, u91, u92, u93, u94, u95, u96, u97], []⟩) : ∀ a : Act, a.tmps.size = 98 → a.defers = [] → P a := by
  rintro ⟨⟨t⟩, d⟩ h1 h2
  simp only [List.size_toArray] at h1 h2
  subst h2
  have h := unroll t 98 h1
  have e : (List.range 98).map (fun i => t.getD i undef) = [t.getD 0 undef, t.getD 1 undef, t.getD 2 undef, t.getD 3 undef, t.getD 4 undef, t.getD 5 undef, t.getD 6 undef, t.getD 7 undef, t.getD 8 undef, t.getD 9 undef, t.getD 10 undef, t.getD 11 undef, t.getD 12 undef, t.getD 13 undef, t.getD 14 undef, t.getD 15 undef, t.getD 16 undef, t.getD 17 undef, t.getD 18 undef, t.getD 19 undef, t.getD 20 undef, t.getD 21 undef, t.getD 22 undef, t.getD 23 undef, t.getD 24 undef, t.getD 25 undef, t.getD 26 undef, t.getD 27 undef, t.getD 28 undef, t.getD 29 undef, t.getD 30 undef, t.getD 31 undef, t.getD 32 undef, t.getD 33 undef, t.getD 34 undef, t.getD 35 undef, t.getD 36 undef, t.getD 37 undef, t.getD 38 undef, t.getD 39 undef, t.getD 40 undef, t.getD 41 undef, t.getD 42 undef, t.getD 43 undef, t.getD 44 undef, t.getD 45 undef, t.getD 46 undef, t.getD 47 undef, t.getD 48 undef, t.getD 49 undef, t.getD 50 undef, t.getD 51 undef, t.getD 52 undef, t.getD 53 undef, t.getD 54 undef, t.getD 55 undef, t.getD 56 undef, t.getD 57 undef, t.getD 58 undef, t.getD 59 undef, t.getD 60 undef, t.getD 61 undef, t.getD 62 undef, t.getD 63 undef, t.getD 64 undef, t.getD 65 undef, t.getD 66 undef, t.getD 67 undef, t.getD 68 undef, t.getD 69 undef, t.getD 70 undef, t.getD 71 undef, t.getD 72 undef, t.getD 73 undef, t.getD 74 undef, t.getD 75 undef, t.getD 76 undef, t.getD 77 undef, t.getD 78 undef, t.getD 79 undef, t.getD 80 undef, t.getD 81 undef, t.getD 82 undef, t.getD 83 undef, t.getD 84 undef, t.getD 85 undef, t.getD 86 undef, t.getD 87 undef, t.getD 88 undef, t.getD 89 undef, t.getD 90 undef, t.getD 91 undef, t.getD 92 undef, t.getD 93 undef, t.getD 94 undef, t.getD 95 undef, t.getD 96 undef, t.getD 97 undef] := rfl
  exact Eq.mpr (congrArg (fun l : List Value => P ⟨⟨l⟩, []⟩) (h.trans e)) (hP (t.getD 0 undef) (t.getD 1 undef) (t.getD 2 undef) (t.getD 3 undef) (t.getD 4 undef) (t.getD 5 undef) (t.getD 6 undef) (t.getD 7 undef) (t.getD 8 undef) (t.getD 9 undef) (t.getD 10 undef) (t.getD 11 undef) (t.getD 12 undef) (t.getD 13 undef) (t.getD 14 undef) (t.getD 15 undef) (t.getD 16 undef) (t.getD 17 undef) (t.getD 18 undef) (t.getD 19 undef) (t.getD 20 undef) (t.getD 21 undef) (t.getD 22 undef) (t.getD 23 undef) (t.getD 24 undef) (t.getD 25 undef) (t.getD 26 undef) (t.getD 27 undef) (t.getD 28 undef) (t.getD 29 undef) (t.getD 30 undef) (t.getD 31 undef) (t.getD 32 undef) (t.getD 33 undef) (t.getD 34 undef) (t.getD 35 undef) (t.getD 36 undef) (t.getD 37 undef) (t.getD 38 undef) (t.getD 39 undef) (t.getD 40 undef) (t.getD 41 undef) (t.getD 42 undef) (t.getD 43 undef) (t.getD 44 undef) (t.getD 45 undef) (t.getD 46 undef) (t.getD 47 undef) (t.getD 48 undef) (t.getD 49 undef) (t.getD 50 undef) (t.getD 51 undef) (t.getD 52 undef) (t.getD 53 undef) (t.getD 54 undef) (t.getD 55 undef) (t.getD 56 undef) (t.getD 57 undef) (t.getD 58 undef) (t.getD 59 undef) (t.getD 60 undef) (t.getD 61 undef) (t.getD 62 undef) (t.getD 63 undef) (t.getD 64 undef) (t.getD 65 undef) (t.getD 66 undef) (t.getD 67 undef) (t.getD 68 undef) (t.getD 69 undef) (t.getD 70 undef) (t.getD 71 undef) (t.getD 72 undef) (t.getD 73 undef) (t.getD 74 undef) (t.getD 75 undef) (t.getD 76 undef) (t.getD 77 undef) (t.getD 78 undef) (t.getD 79 undef) (t.getD 80 undef) (t.getD 81 undef) (t.getD 82 undef) (t.getD 83 undef) (t.getD 84 undef) (t.getD 85 undef) (t.getD 86 undef) (t.getD 87 undef) (t.getD 88 undef) (t.getD 89 undef) (t.getD 90 undef) (t.getD 91 undef) (t.getD 92 undef) (t.getD 93 undef) (t.getD 94 undef) (t.getD 95 undef) (t.getD 96 undef) (t.getD 97 undef))
end Mem
namespace Tree
open Mem BT
def Sh2 (w : World) (R gi ci gb cb m : Nat) (ids bxs : List Value) : Prop :=
  Blk w R 54 [.slice (some ⟨gi, 0, none⟩) m ci, .slice (some ⟨gb, 0, none⟩) m cb] ∧ w.ownsRow 0 32 1 (.slice (some ⟨gi, 0, none⟩) m ci) m ids ∧ w.ownsRow 0 47 4 (.slice (some ⟨gb, 0, none⟩) m cb) m bxs
noncomputable def rsh : Code := (loops (Try.f21.body.getD .skip)).getD 0 .skip
set_option maxHeartbeats 4000000 in
set_option maxRecDepth 100000 in
theorem rsh_go (w : World) (R gi ci gb cb m : Nat) (ids bxs : List Value) (h : Sh2 w R gi ci gb cb m ids bxs) (id BB pos k : Nat) (hk : (k : Int) + 1 < m) (hp : (pos : Int) < k + 1) (hm : (m : Int) ≤ 65537) (x y0 y1 y2 y3 : Int)
    (hx : ids[k]? = some (.int .u32 x)) (h0 : bxs[k * 4 + 0]? = some (.int .i32 y0)) (h1 : bxs[k * 4 + 1]? = some (.int .i32 y1)) (h2 : bxs[k * 4 + 2]? = some (.int .i32 y2)) (h3 : bxs[k * 4 + 3]? = some (.int .i32 y3))
    (X : Nat → Act → World → Prop) (Rt : Act → World → Prop) (a : Act) (hF : Fr a 98 [(0, .pointer (some ⟨R, 0, none⟩)), (1, .int .u32 (id : Int)), (5, .pointer (some ⟨BB, 0, none⟩)), (7, .int .i64 (pos : Int)), (9, .int .i64 ((k + 1 : Nat) : Int))]) :
    rsh.wp Try.prog (Outs (fun a' w' => Fr a' 98 [(0, .pointer (some ⟨R, 0, none⟩)), (1, .int .u32 (id : Int)), (5, .pointer (some ⟨BB, 0, none⟩)), (7, .int .i64 (pos : Int)), (9, .int .i64 (k : Int))] ∧ Sh2 w' R gi ci gb cb m (ids.set (k + 1) (.int .u32 x)) ((((bxs.set ((k + 1) * 4 + 0) (.int .i32 y0)).set ((k + 1) * 4 + 1) (.int .i32 y1)).set ((k + 1) * 4 + 2) (.int .i32 y2)).set ((k + 1) * 4 + 3) (.int .i32 y3)) ∧ Keeps (fun b => b = gi ∨ b = gb) w w') X Rt) a w := by
  revert hF
  refine fun hF => frames98 (P := fun a => Fr a 98 [(0, .pointer (some ⟨R, 0, none⟩)), (1, .int .u32 (id : Int)), (5, .pointer (some ⟨BB, 0, none⟩)), (7, .int .i64 (pos : Int)), (9, .int .i64 ((k + 1 : Nat) : Int))] → rsh.wp Try.prog (Outs (fun a' w' => Fr a' 98 [(0, .pointer (some ⟨R, 0, none⟩)), (1, .int .u32 (id : Int)), (5, .pointer (some ⟨BB, 0, none⟩)), (7, .int .i64 (pos : Int)), (9, .int .i64 (k : Int))] ∧ Sh2 w' R gi ci gb cb m (ids.set (k + 1) (.int .u32 x)) ((((bxs.set ((k + 1) * 4 + 0) (.int .i32 y0)).set ((k + 1) * 4 + 1) (.int .i32 y1)).set ((k + 1) * 4 + 2) (.int .i32 y2)).set ((k + 1) * 4 + 3) (.int .i32 y3)) ∧ Keeps (fun b => b = gi ∨ b = gb) w w') X Rt) a w) ?_ a hF.1 hF.2.1 hF
  intro u0 u1 u2 u3 u4 u5 u6 u7 u8 u9 u10 u11 u12 u13 u14 u15 u16 u17 u18 u19 u20 u21 u22 u23 u24 u25 u26 u27 u28 u29 u30 u31 u32 u33 u34 u35 u36 u37 u38 u39 u40 u41 u42 u43 u44 u45 u46 u47 u48 u49 u50 u51 u52 u53 u54 u55 u56 u57 u58 u59 u60 u61 u62 u63 u64 u65 u66 u67 u68 u69 u70 u71 u72 u73 u74 u75 u76 u77 u78 u79 u80 u81 u82 u83 u84 u85 u86 u87 u88 u89 u90 u91 u92 u93 u94 u95 u96 u97 hF
  obtain rfl : u0 = .pointer (some ⟨R, 0, none⟩) := hF.at_ 0 _ (by simp)
  obtain rfl : u1 = .int .u32 (id : Int) := hF.at_ 1 _ (by simp)
  obtain rfl : u5 = .pointer (some ⟨BB, 0, none⟩) := hF.at_ 5 _ (by simp)
  obtain rfl : u7 = .int .i64 (pos : Int) := hF.at_ 7 _ (by simp)
  obtain rfl : u9 = .int .i64 ((k + 1 : Nat) : Int) := hF.at_ 9 _ (by simp)
  clear hF
  obtain ⟨hB, hI, hX⟩ := h
  have hRi : R ≠ gi := fun e => by have := own_ne hI hB (by decide); simp [Value.ownBlock] at this; exact this e
  have hRb : R ≠ gb := fun e => by have := own_ne hX hB (by decide); simp [Value.ownBlock] at this; exact this e
  have hib : gi ≠ gb := fun e => by
    obtain ⟨g1, c1, cur1, e1, _, g2, _⟩ := hI.2.resolve_left (by simp)
    obtain ⟨g3, c3, cur3, e3, _, g4, _⟩ := hX.2.resolve_left (by simp)
    simp at e1 e3
    rw [← e1.1] at g2
    rw [← e3.1, ← e, g2] at g4
    simp at g4
  have cR := hB.drew.cell
  have hil := hI.1
  have hxl := hX.1
  have ck := (hI.cells (g := gi) rfl k _ hx)
  have q0 := (hX.cells (g := gb) rfl _ _ h0)
  have q1 := (hX.cells (g := gb) rfl _ _ h1)
  have q2 := (hX.cells (g := gb) rfl _ _ h2)
  have q3 := (hX.cells (g := gb) rfl _ _ h3)
  rw [Addr.add_mid, Nat.zero_add] at ck q0 q1 q2 q3
  obtain ⟨v1, e1⟩ : ∃ v1, w.cell? ⟨gi, k + 1, none⟩ = some v1 := by
    rw [hI.cellAt (k + 1) (by omega)]
    exact ⟨_, List.getElem?_eq_getElem (by omega)⟩
  have fI := hI.frozenAt
  have kI : (0 : Int) ≤ (k : Int) := by omega
  have kI1 : (0 : Int) ≤ (k : Int) + 1 := by omega
  have hkm : (k : Int) < m := by omega
  have hw1 : IntKind.i64.wrap ((k : Int) + 1 - 1) = (k : Int) := by rw [Int.add_sub_cancel]; exact IntWalk.i64_in _ (by omega)
  have hw2 : IntKind.i64.wrap (k : Int) = (k : Int) := IntWalk.i64_in _ (by omega)
  have HB := Lib.hid hB; have HI := Lib.hid hI; have HX := Lib.hid hX
  have HQ := Lib.hid (And.intro q0 (And.intro q1 (And.intro q2 q3)))
  have HNE := Lib.hid (And.intro hRi (And.intro hRb hib))
  clear hB hI hX hil hxl q0 q1 q2 q3 h0 h1 h2 h3 hx hRb
  conv => arg 2; whnf
  go_wp2
  have hSa : (∀ j : Nat, w.drew.cell? ⟨R, j, none⟩ = ([.slice (some ⟨gi, 0, none⟩) m ci, .slice (some ⟨gb, 0, none⟩) m cb] : List Value)[j]?) ∧ w.drew.cell? ⟨gi, k, none⟩ = some (.int .u32 x) := ⟨cR, ck⟩
  have hSb : (∀ j : Nat, (w.setCell ⟨gi, k + 1, none⟩ (.int .u32 x)).drew.cell? ⟨R, j, none⟩ = ([.slice (some ⟨gi, 0, none⟩) m ci, .slice (some ⟨gb, 0, none⟩) m cb] : List Value)[j]?) ∧ (w.setCell ⟨gi, k + 1, none⟩ (.int .u32 x)).drew.cell? ⟨gi, k, none⟩ = some (.int .u32 x) := ⟨all_far (W := w) cR hRi, pt_far (W := w) ck (.inr (by omega))⟩
  have HSa := Lib.hid hSa
  have HSb := Lib.hid hSb
  clear hSa hSb
  go_region_held3 (fun W => (∀ j : Nat, W.cell? ⟨R, j, none⟩ = ([.slice (some ⟨gi, 0, none⟩) m ci, .slice (some ⟨gb, 0, none⟩) m cb] : List Value)[j]?) ∧ W.cell? ⟨gi, k, none⟩ = some (.int .u32 x)) (first | with_reducible assumption | with_reducible refine HSa.out | with_reducible refine HSb.out) (fail)
  obtain ⟨w1, hw⟩ : ∃ w1, w1 = w.setCell ⟨gi, k + 1, none⟩ (.int .u32 x) := ⟨_, rfl⟩
  have hB1 : Blk w1 R 54 [.slice (some ⟨gi, 0, none⟩) m ci, .slice (some ⟨gb, 0, none⟩) m cb] := hw ▸ HB.out.far (p := ⟨gi, k + 1, none⟩) hRi _
  have hI1 : w1.ownsRow 0 32 1 (.slice (some ⟨gi, 0, none⟩) m ci) m (ids.set (k + 1) (.int .u32 x)) := hw ▸ (HI.out.stored (k + 1) _).1
  have hX1 : w1.ownsRow 0 47 4 (.slice (some ⟨gb, 0, none⟩) m cb) m bxs := hw ▸ owns_setCell HX.out (p := ⟨gi, k + 1, none⟩) (by simp [Value.ownBlock]; exact fun e => HNE.out.2.2 e.symm) _
  have hK1 : Keeps (fun b => b = gi ∨ b = gb) w w1 := hw ▸ (Keeps.refl _ w).setCell (p := ⟨gi, k + 1, none⟩) (by simp) _
  have hq : w1.cell? ⟨gb, k * 4 + 0, none⟩ = some (.int .i32 y0) ∧ w1.cell? ⟨gb, k * 4 + 1, none⟩ = some (.int .i32 y1) ∧ w1.cell? ⟨gb, k * 4 + 2, none⟩ = some (.int .i32 y2) ∧ w1.cell? ⟨gb, k * 4 + 3, none⟩ = some (.int .i32 y3) := by
    rw [hw]
    exact ⟨pt_far HQ.out.1 (.inl (Ne.symm HNE.out.2.2)), pt_far HQ.out.2.1 (.inl (Ne.symm HNE.out.2.2)), pt_far HQ.out.2.2.1 (.inl (Ne.symm HNE.out.2.2)), pt_far HQ.out.2.2.2 (.inl (Ne.symm HNE.out.2.2))⟩
  rw [← hw]
  clear hw cR ck e1 fI
  obtain ⟨q0, q1, q2, q3⟩ := hq
  simp only [Nat.add_zero] at q0
  have hxl := hX1.1
  have hd : ∀ j, j < 4 → ∃ v, w1.cell? ⟨gb, (k + 1) * 4 + j, none⟩ = some v := fun j hj => by
    rw [hX1.cellAt _ (by omega)]
    exact ⟨_, List.getElem?_eq_getElem (by omega)⟩
  obtain ⟨r0, hr0⟩ := hd 0 (by omega)
  obtain ⟨r1, hr1⟩ := hd 1 (by omega)
  obtain ⟨r2, hr2⟩ := hd 2 (by omega)
  obtain ⟨r3, hr3⟩ := hd 3 (by omega)
  simp only [Nat.add_zero] at hr0
  have fX := hX1.frozenAt
  have hRb2 := HNE.out.2.1
  have cR := hB1.drew.cell
  have HB1 := Lib.hid hB1; have HI1 := Lib.hid hI1; have HX1 := Lib.hid hX1; have HK1 := Lib.hid hK1
  clear hB1 hI1 hX1 hK1 hd hxl
  go_wp2
  have HSc := Lib.hid (show (∀ j : Nat, w1.drew.drew.cell? ⟨R, j, none⟩ = ([.slice (some ⟨gi, 0, none⟩) m ci, .slice (some ⟨gb, 0, none⟩) m cb] : List Value)[j]?) ∧ w1.drew.drew.cell? ⟨gb, k * 4, none⟩ = some (.int .i32 y0) ∧ w1.drew.drew.cell? ⟨gb, k * 4 + 1, none⟩ = some (.int .i32 y1) ∧ w1.drew.drew.cell? ⟨gb, k * 4 + 2, none⟩ = some (.int .i32 y2) ∧ w1.drew.drew.cell? ⟨gb, k * 4 + 3, none⟩ = some (.int .i32 y3) from ⟨cR, q0, q1, q2, q3⟩)
  have HSd := Lib.hid (show (∀ j : Nat, ((((w1.setCell ⟨gb, (k + 1) * 4, none⟩ (.int .i32 y0)).setCell ⟨gb, (k + 1) * 4 + 1, none⟩ (.int .i32 y1)).setCell ⟨gb, (k + 1) * 4 + 2, none⟩ (.int .i32 y2)).setCell ⟨gb, (k + 1) * 4 + 3, none⟩ (.int .i32 y3)).drew.drew.cell? ⟨R, j, none⟩ = ([.slice (some ⟨gi, 0, none⟩) m ci, .slice (some ⟨gb, 0, none⟩) m cb] : List Value)[j]?) ∧ ((((w1.setCell ⟨gb, (k + 1) * 4, none⟩ (.int .i32 y0)).setCell ⟨gb, (k + 1) * 4 + 1, none⟩ (.int .i32 y1)).setCell ⟨gb, (k + 1) * 4 + 2, none⟩ (.int .i32 y2)).setCell ⟨gb, (k + 1) * 4 + 3, none⟩ (.int .i32 y3)).drew.drew.cell? ⟨gb, k * 4, none⟩ = some (.int .i32 y0) ∧ ((((w1.setCell ⟨gb, (k + 1) * 4, none⟩ (.int .i32 y0)).setCell ⟨gb, (k + 1) * 4 + 1, none⟩ (.int .i32 y1)).setCell ⟨gb, (k + 1) * 4 + 2, none⟩ (.int .i32 y2)).setCell ⟨gb, (k + 1) * 4 + 3, none⟩ (.int .i32 y3)).drew.drew.cell? ⟨gb, k * 4 + 1, none⟩ = some (.int .i32 y1) ∧ ((((w1.setCell ⟨gb, (k + 1) * 4, none⟩ (.int .i32 y0)).setCell ⟨gb, (k + 1) * 4 + 1, none⟩ (.int .i32 y1)).setCell ⟨gb, (k + 1) * 4 + 2, none⟩ (.int .i32 y2)).setCell ⟨gb, (k + 1) * 4 + 3, none⟩ (.int .i32 y3)).drew.drew.cell? ⟨gb, k * 4 + 2, none⟩ = some (.int .i32 y2) ∧ ((((w1.setCell ⟨gb, (k + 1) * 4, none⟩ (.int .i32 y0)).setCell ⟨gb, (k + 1) * 4 + 1, none⟩ (.int .i32 y1)).setCell ⟨gb, (k + 1) * 4 + 2, none⟩ (.int .i32 y2)).setCell ⟨gb, (k + 1) * 4 + 3, none⟩ (.int .i32 y3)).drew.drew.cell? ⟨gb, k * 4 + 3, none⟩ = some (.int .i32 y3) from ⟨all_far (all_far (all_far (all_far (W := w1) cR hRb2) hRb2) hRb2) hRb2, pt_far (pt_far (pt_far (pt_far (W := w1) q0 (.inr (by omega))) (.inr (by omega))) (.inr (by omega))) (.inr (by omega)), pt_far (pt_far (pt_far (pt_far (W := w1) q1 (.inr (by omega))) (.inr (by omega))) (.inr (by omega))) (.inr (by omega)), pt_far (pt_far (pt_far (pt_far (W := w1) q2 (.inr (by omega))) (.inr (by omega))) (.inr (by omega))) (.inr (by omega)), pt_far (pt_far (pt_far (pt_far (W := w1) q3 (.inr (by omega))) (.inr (by omega))) (.inr (by omega))) (.inr (by omega))⟩)
  go_region_held3 (fun W => (∀ j : Nat, W.cell? ⟨R, j, none⟩ = ([.slice (some ⟨gi, 0, none⟩) m ci, .slice (some ⟨gb, 0, none⟩) m cb] : List Value)[j]?) ∧ W.cell? ⟨gb, k * 4, none⟩ = some (.int .i32 y0) ∧ W.cell? ⟨gb, k * 4 + 1, none⟩ = some (.int .i32 y1) ∧ W.cell? ⟨gb, k * 4 + 2, none⟩ = some (.int .i32 y2) ∧ W.cell? ⟨gb, k * 4 + 3, none⟩ = some (.int .i32 y3)) (first | with_reducible assumption | with_reducible refine HSc.out | with_reducible refine HSd.out) (fail)
  have hno : (Value.slice (some ⟨gi, 0, none⟩) m ci).ownBlock ≠ some gb := by simp [Value.ownBlock]; exact HNE.out.2.2
  have HFin := Lib.hid (show Sh2 ((((w1.setCell ⟨gb, (k + 1) * 4 + 0, none⟩ (.int .i32 y0)).setCell ⟨gb, (k + 1) * 4 + 1, none⟩ (.int .i32 y1)).setCell ⟨gb, (k + 1) * 4 + 2, none⟩ (.int .i32 y2)).setCell ⟨gb, (k + 1) * 4 + 3, none⟩ (.int .i32 y3)) R gi ci gb cb m (ids.set (k + 1) (.int .u32 x)) ((((bxs.set ((k + 1) * 4 + 0) (.int .i32 y0)).set ((k + 1) * 4 + 1) (.int .i32 y1)).set ((k + 1) * 4 + 2) (.int .i32 y2)).set ((k + 1) * 4 + 3) (.int .i32 y3)) from
    ⟨(((HB1.out.far (p := ⟨gb, _, none⟩) hRb2 _).far (p := ⟨gb, _, none⟩) hRb2 _).far (p := ⟨gb, _, none⟩) hRb2 _).far (p := ⟨gb, _, none⟩) hRb2 _,
     owns_setCell (owns_setCell (owns_setCell (owns_setCell HI1.out (p := ⟨gb, _, none⟩) hno _) (p := ⟨gb, _, none⟩) hno _) (p := ⟨gb, _, none⟩) hno _) (p := ⟨gb, _, none⟩) hno _,
     (((((((HX1.out.stored _ _).1).stored _ _).1).stored _ _).1).stored _ _).1⟩)
  have HKF := Lib.hid (show Keeps (fun b => b = gi ∨ b = gb) w ((((w1.setCell ⟨gb, (k + 1) * 4 + 0, none⟩ (.int .i32 y0)).setCell ⟨gb, (k + 1) * 4 + 1, none⟩ (.int .i32 y1)).setCell ⟨gb, (k + 1) * 4 + 2, none⟩ (.int .i32 y2)).setCell ⟨gb, (k + 1) * 4 + 3, none⟩ (.int .i32 y3)) from
    (((HK1.out.setCell (p := ⟨gb, _, none⟩) (by simp) _).setCell (p := ⟨gb, _, none⟩) (by simp) _).setCell (p := ⟨gb, _, none⟩) (by simp) _).setCell (p := ⟨gb, _, none⟩) (by simp) _)
  clear cR fX hRb2 q0 q1 q2 q3 hr0 hr1 hr2 hr3
  go_wp2
  exact ⟨⟨rfl, rfl, by simp⟩, HFin.out, HKF.out.drew.drew⟩
end Tree
end Go.Proofs.Ytndghakagogmcaa
namespace Go.Proofs.Ytndghakagogmcaa
open Go.RowKit Go.Shelf
set_option linter.unusedVariables false
set_option linter.unusedSimpArgs false
namespace Tree
open Mem BT
def idsJ (L : List (Nat × Bx)) (y : Value) (j : Nat) : List Value := idCells (L.take j) ++ y :: idCells (L.drop j)
def bxsJ (L : List (Nat × Bx)) (y0 y1 y2 y3 : Value) (j : Nat) : List Value := boxCells (L.take j) ++ y0 :: y1 :: y2 :: y3 :: boxCells (L.drop j)
theorem idCells_length (L : List (Nat × Bx)) : (idCells L).length = L.length := by simp [idCells, u32s]
theorem boxCells_length (L : List (Nat × Bx)) : (boxCells L).length = L.length * 4 := flat_length (f := fun p : Nat × Bx => boxCs p.2) (fun _ => rfl) L
theorem idCells_app (A B : List (Nat × Bx)) : idCells (A ++ B) = idCells A ++ idCells B := by simp [idCells, u32s]
theorem boxCells_app (A B : List (Nat × Bx)) : boxCells (A ++ B) = boxCells A ++ boxCells B := by simp [boxCells]
theorem take_succ_at {L : List (Nat × Bx)} {k : Nat} {p : Nat × Bx} (h : L[k]? = some p) : L.take (k + 1) = L.take k ++ [p] := by
  have hi := (List.getElem?_eq_some_iff.1 h).1
  rw [← List.take_append_getElem hi, (List.getElem?_eq_some_iff.1 h).2]
theorem drop_at {L : List (Nat × Bx)} {k : Nat} {p : Nat × Bx} (h : L[k]? = some p) : L.drop k = p :: L.drop (k + 1) := by
  have hi := (List.getElem?_eq_some_iff.1 h).1
  have := List.drop_eq_getElem_cons hi
  rw [(List.getElem?_eq_some_iff.1 h).2] at this
  exact this
theorem set_mid {A B : List Value} {x y : Value} {n : Nat} (h : A.length = n) : (A ++ y :: B).set n x = A ++ x :: B := by
  subst h
  rw [List.set_append_right _ _ (Nat.le_refl _)]
  simp
theorem idsJ_step {L : List (Nat × Bx)} {k : Nat} {p : Nat × Bx} (h : L[k]? = some p) (y : Value) : (idsJ L y (k + 1)).set (k + 1) (.int .u32 (p.1 : Int)) = idsJ L (.int .u32 (p.1 : Int)) k := by
  have hi := (List.getElem?_eq_some_iff.1 h).1
  unfold idsJ
  rw [set_mid (by rw [idCells_length, List.length_take]; omega), take_succ_at h, drop_at h, idCells_app]
  simp [idCells, u32s]
theorem idsJ_at {L : List (Nat × Bx)} {k : Nat} {p : Nat × Bx} (h : L[k]? = some p) (y : Value) : (idsJ L y (k + 1))[k]? = some (.int .u32 (p.1 : Int)) := by
  have hi := (List.getElem?_eq_some_iff.1 h).1
  unfold idsJ
  rw [List.getElem?_append_left (by rw [idCells_length, List.length_take]; omega)]
  simp [idCells, u32s, List.getElem?_take, h]
theorem bxsJ_step {L : List (Nat × Bx)} {k : Nat} {p : Nat × Bx} (h : L[k]? = some p) (y0 y1 y2 y3 : Value) :
    (((((bxsJ L y0 y1 y2 y3 (k + 1)).set ((k + 1) * 4 + 0) (.int .i32 p.2.x0)).set ((k + 1) * 4 + 1) (.int .i32 p.2.y0)).set ((k + 1) * 4 + 2) (.int .i32 p.2.x1)).set ((k + 1) * 4 + 3) (.int .i32 p.2.y1)) = bxsJ L (.int .i32 p.2.x0) (.int .i32 p.2.y0) (.int .i32 p.2.x1) (.int .i32 p.2.y1) k := by
  have hi := (List.getElem?_eq_some_iff.1 h).1
  have hl : (boxCells (L.take (k + 1))).length = (k + 1) * 4 := by rw [boxCells_length, List.length_take]; omega
  unfold bxsJ
  rw [set_mid (n := (k + 1) * 4 + 0) (by omega)]
  have e1 : ∀ (a b : Value) (B : List Value), boxCells (L.take (k + 1)) ++ a :: b :: B = (boxCells (L.take (k + 1)) ++ [a]) ++ b :: B := fun a b B => by simp
  have e2 : ∀ (a b c : Value) (B : List Value), boxCells (L.take (k + 1)) ++ a :: b :: c :: B = (boxCells (L.take (k + 1)) ++ [a, b]) ++ c :: B := fun a b c B => by simp
  have e3 : ∀ (a b c d : Value) (B : List Value), boxCells (L.take (k + 1)) ++ a :: b :: c :: d :: B = (boxCells (L.take (k + 1)) ++ [a, b, c]) ++ d :: B := fun a b c d B => by simp
  rw [e1, set_mid (n := (k + 1) * 4 + 1) (by simp; omega), ← e1, e2, set_mid (n := (k + 1) * 4 + 2) (by simp; omega), ← e2, e3, set_mid (n := (k + 1) * 4 + 3) (by simp; omega), ← e3, take_succ_at h, drop_at h, boxCells_app]
  simp [boxCells, boxCs]
theorem bxsJ_at {L : List (Nat × Bx)} {k : Nat} {p : Nat × Bx} (h : L[k]? = some p) (y0 y1 y2 y3 : Value) {j : Nat} {u : Value} (hj : (boxCs p.2)[j]? = some u) : (bxsJ L y0 y1 y2 y3 (k + 1))[k * 4 + j]? = some u := by
  have hi := (List.getElem?_eq_some_iff.1 h).1
  have hj4 : j < 4 := by have := (List.getElem?_eq_some_iff.1 hj).1; simpa [boxCs] using this
  have hl : (boxCells (L.take (k + 1))).length = (k + 1) * 4 := by rw [boxCells_length, List.length_take]; omega
  unfold bxsJ
  rw [List.getElem?_append_left (by omega)]
  have := flat_cell (f := fun p : Nat × Bx => boxCs p.2) (fun _ => rfl) (L.take (k + 1)) k j hj4 p (by rw [List.getElem?_take]; simp [h])
  exact this.trans hj
theorem idsJ_end (L : List (Nat × Bx)) (id : Nat) (bx : Bx) (y : Value) (j : Nat) (hj : j ≤ L.length) : (idsJ L y j).set j (.int .u32 (id : Int)) = idCells (L.take j ++ (id, bx) :: L.drop j) := by
  unfold idsJ
  rw [set_mid (by rw [idCells_length, List.length_take]; omega), idCells_app]
  simp [idCells, u32s]
theorem bxsJ_end (L : List (Nat × Bx)) (id : Nat) (bx : Bx) (y0 y1 y2 y3 : Value) (j : Nat) (hj : j ≤ L.length) :
    (((((bxsJ L y0 y1 y2 y3 j).set (j * 4 + 0) (.int .i32 bx.x0)).set (j * 4 + 1) (.int .i32 bx.y0)).set (j * 4 + 2) (.int .i32 bx.x1)).set (j * 4 + 3) (.int .i32 bx.y1)) = boxCells (L.take j ++ (id, bx) :: L.drop j) := by
  have hl : (boxCells (L.take j)).length = j * 4 := by rw [boxCells_length, List.length_take]; omega
  unfold bxsJ
  rw [set_mid (n := j * 4 + 0) (by omega)]
  have e1 : ∀ (a b : Value) (B : List Value), boxCells (L.take j) ++ a :: b :: B = (boxCells (L.take j) ++ [a]) ++ b :: B := fun a b B => by simp
  have e2 : ∀ (a b c : Value) (B : List Value), boxCells (L.take j) ++ a :: b :: c :: B = (boxCells (L.take j) ++ [a, b]) ++ c :: B := fun a b c B => by simp
  have e3 : ∀ (a b c d : Value) (B : List Value), boxCells (L.take j) ++ a :: b :: c :: d :: B = (boxCells (L.take j) ++ [a, b, c]) ++ d :: B := fun a b c d B => by simp
  rw [e1, set_mid (n := j * 4 + 1) (by simp; omega), ← e1, e2, set_mid (n := j * 4 + 2) (by simp; omega), ← e2, e3, set_mid (n := j * 4 + 3) (by simp; omega), ← e3, boxCells_app]
  simp [boxCells, boxCs]
end Tree
end Go.Proofs.Ytndghakagogmcaa
