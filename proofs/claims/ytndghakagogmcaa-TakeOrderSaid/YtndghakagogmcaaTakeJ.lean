/-
  TakeOrder: the walk.
-/
import Derived.Test.YtndghakagogmcaaTakeI
namespace Go.Proofs.Ytndghakagogmcaa
open Go.RowKit
set_option linter.unusedVariables false
namespace Take
open Mem
def TS (base : Nat) (w0 w : World) (TB AB LB WB tb rb n nx : Nat) : Prop :=
  ∃ rs a c, OS base w TB AB LB WB tb rb n nx rs (mks 1 nx) a c ∧ Inv n nx 300 rs ∧ Free nx rs ∧ Below base w0 w
noncomputable def ordLoops : List Code := loops (Try.f8.body.getD .skip)
noncomputable def ord1 : Code := ordLoops.getD 0 .skip
noncomputable def ord2 : Code := ordLoops.getD 1 .skip
noncomputable def ord3 : Code := ordLoops.getD 2 .skip
noncomputable def ord4 : Code := ordLoops.getD 3 .skip
set_option maxRecDepth 100000 in
theorem ord1_go (base : Nat) (w0 w : World) (TB AB LB WB tb rb n nx : Nat) (nn : Int) (h : TS base w0 w TB AB LB WB tb rb n nx) (hn0 : 0 < n) (hn : n ≤ 32) (hne : TB ≠ AB ∧ TB ≠ LB ∧ AB ≠ LB) (len cap nb off i z : Nat) (hi : i < len) (hz : z ≤ 255) (hc : w.cell? ⟨nb, off + i, none⟩ = some (.int .u8 (z : Int))) (hlen : len ≤ 9223372036854775807)
    (N R : Act → World → Prop) (X : Nat → Act → World → Prop) (a : Act) (hF : Fr a 106 [(1, .slice (some ⟨nb, off, none⟩) len cap), (2, .int .i64 nn), (3, .pointer (some ⟨WB, 0, none⟩)), (9, .pointer (some ⟨AB, 0, none⟩)), (10, .pointer (some ⟨LB, 0, none⟩)), (11, .func (.func 15) #[] #[.pointer (some ⟨TB, 0, none⟩), .pointer (some ⟨AB, 0, none⟩), .pointer (some ⟨LB, 0, none⟩), .pointer (some ⟨WB, 0, none⟩)]), (12, .int .i64 (i : Int))])
    (hQ : ∀ a w' nx', Fr a 106 [(1, .slice (some ⟨nb, off, none⟩) len cap), (2, .int .i64 nn), (3, .pointer (some ⟨WB, 0, none⟩)), (9, .pointer (some ⟨AB, 0, none⟩)), (10, .pointer (some ⟨LB, 0, none⟩)), (11, .func (.func 15) #[] #[.pointer (some ⟨TB, 0, none⟩), .pointer (some ⟨AB, 0, none⟩), .pointer (some ⟨LB, 0, none⟩), .pointer (some ⟨WB, 0, none⟩)]), (12, .int .i64 (i + 1 : Nat))] → TS base w0 w' TB AB LB WB tb rb n nx' → N a w') : ord1.wp Try.prog (Outs N X R) a w := by
  revert hF
  refine fun hF => frames106 (P := fun a => Fr a 106 [(1, .slice (some ⟨nb, off, none⟩) len cap), (2, .int .i64 nn), (3, .pointer (some ⟨WB, 0, none⟩)), (9, .pointer (some ⟨AB, 0, none⟩)), (10, .pointer (some ⟨LB, 0, none⟩)), (11, .func (.func 15) #[] #[.pointer (some ⟨TB, 0, none⟩), .pointer (some ⟨AB, 0, none⟩), .pointer (some ⟨LB, 0, none⟩), .pointer (some ⟨WB, 0, none⟩)]), (12, .int .i64 (i : Int))] → ord1.wp Try.prog (Outs N X R) a w) ?_ a hF.1 hF.2.1 hF
  intro u0 u1 u2 u3 u4 u5 u6 u7 u8 u9 u10 u11 u12 u13 u14 u15 u16 u17 u18 u19 u20 u21 u22 u23 u24 u25 u26 u27 u28 u29 u30 u31 u32 u33 u34 u35 u36 u37 u38 u39 u40 u41 u42 u43 u44 u45 u46 u47 u48 u49 u50 u51 u52 u53 u54 u55 u56 u57 u58 u59 u60 u61 u62 u63 u64 u65 u66 u67 u68 u69 u70 u71 u72 u73 u74 u75 u76 u77 u78 u79 u80 u81 u82 u83 u84 u85 u86 u87 u88 u89 u90 u91 u92 u93 u94 u95 u96 u97 u98 u99 u100 u101 u102 u103 u104 u105 hF
  obtain rfl : u1 = .slice (some ⟨nb, off, none⟩) len cap := hF.at_ 1 _ (by simp)
  obtain rfl : u2 = .int .i64 nn := hF.at_ 2 _ (by simp)
  obtain rfl : u3 = .pointer (some ⟨WB, 0, none⟩) := hF.at_ 3 _ (by simp)
  obtain rfl : u9 = .pointer (some ⟨AB, 0, none⟩) := hF.at_ 9 _ (by simp)
  obtain rfl : u10 = .pointer (some ⟨LB, 0, none⟩) := hF.at_ 10 _ (by simp)
  obtain rfl : u11 = .func (.func 15) #[] #[.pointer (some ⟨TB, 0, none⟩), .pointer (some ⟨AB, 0, none⟩), .pointer (some ⟨LB, 0, none⟩), .pointer (some ⟨WB, 0, none⟩)] := hF.at_ 11 _ (by simp)
  obtain rfl : u12 = .int .i64 (i : Int) := hF.at_ 12 _ (by simp)
  clear hF
  have HQ := Lib.hid hQ; clear hQ
  conv => arg 2; whnf
  obtain ⟨rs, a, c, hO, hI, hFr, hB⟩ := h
  have hstep := Lib.hid (take_step base w TB AB LB WB tb rb n nx 300 rs a c z hO hI hFr hn0 (by omega) (by omega) (by omega) hne)
  clear hO hI hFr
  go_wp2_with (go_at_call 15; refine hstep.out.mono ?_; rintro e w1 ⟨rfl, hB1, nx1, rs1, a1, c1, hO1, hI1, hFr1, hm1, hm2⟩)
  refine HQ.out _ _ nx1 ⟨rfl, rfl, by simp⟩ ⟨rs1, a1, c1, hO1, hI1, hFr1, hB.trans hB1⟩
set_option maxRecDepth 100000 in
theorem ord1_end (base : Nat) (w0 w : World) (TB AB LB WB tb rb n nx : Nat) (nn : Int) (h : TS base w0 w TB AB LB WB tb rb n nx) (hn0 : 0 < n) (hn : n ≤ 32) (hne : TB ≠ AB ∧ TB ≠ LB ∧ AB ≠ LB) (V : Option Addr) (len cap i : Nat) (hi : len ≤ i)
    (N R : Act → World → Prop) (X : Nat → Act → World → Prop) (a : Act) (hF : Fr a 106 [(1, .slice V len cap), (2, .int .i64 nn), (3, .pointer (some ⟨WB, 0, none⟩)), (9, .pointer (some ⟨AB, 0, none⟩)), (10, .pointer (some ⟨LB, 0, none⟩)), (11, .func (.func 15) #[] #[.pointer (some ⟨TB, 0, none⟩), .pointer (some ⟨AB, 0, none⟩), .pointer (some ⟨LB, 0, none⟩), .pointer (some ⟨WB, 0, none⟩)]), (12, .int .i64 (i : Int))])
    (hQ : ∀ a, Fr a 106 [(1, .slice V len cap), (2, .int .i64 nn), (3, .pointer (some ⟨WB, 0, none⟩)), (9, .pointer (some ⟨AB, 0, none⟩)), (10, .pointer (some ⟨LB, 0, none⟩)), (11, .func (.func 15) #[] #[.pointer (some ⟨TB, 0, none⟩), .pointer (some ⟨AB, 0, none⟩), .pointer (some ⟨LB, 0, none⟩), .pointer (some ⟨WB, 0, none⟩)]), (12, .int .i64 (i : Int))] → X 0 a w) : ord1.wp Try.prog (Outs N X R) a w := by
  revert hF
  refine fun hF => frames106 (P := fun a => Fr a 106 [(1, .slice V len cap), (2, .int .i64 nn), (3, .pointer (some ⟨WB, 0, none⟩)), (9, .pointer (some ⟨AB, 0, none⟩)), (10, .pointer (some ⟨LB, 0, none⟩)), (11, .func (.func 15) #[] #[.pointer (some ⟨TB, 0, none⟩), .pointer (some ⟨AB, 0, none⟩), .pointer (some ⟨LB, 0, none⟩), .pointer (some ⟨WB, 0, none⟩)]), (12, .int .i64 (i : Int))] → ord1.wp Try.prog (Outs N X R) a w) ?_ a hF.1 hF.2.1 hF
  intro u0 u1 u2 u3 u4 u5 u6 u7 u8 u9 u10 u11 u12 u13 u14 u15 u16 u17 u18 u19 u20 u21 u22 u23 u24 u25 u26 u27 u28 u29 u30 u31 u32 u33 u34 u35 u36 u37 u38 u39 u40 u41 u42 u43 u44 u45 u46 u47 u48 u49 u50 u51 u52 u53 u54 u55 u56 u57 u58 u59 u60 u61 u62 u63 u64 u65 u66 u67 u68 u69 u70 u71 u72 u73 u74 u75 u76 u77 u78 u79 u80 u81 u82 u83 u84 u85 u86 u87 u88 u89 u90 u91 u92 u93 u94 u95 u96 u97 u98 u99 u100 u101 u102 u103 u104 u105 hF
  obtain rfl : u1 = .slice V len cap := hF.at_ 1 _ (by simp)
  obtain rfl : u2 = .int .i64 nn := hF.at_ 2 _ (by simp)
  obtain rfl : u3 = .pointer (some ⟨WB, 0, none⟩) := hF.at_ 3 _ (by simp)
  obtain rfl : u9 = .pointer (some ⟨AB, 0, none⟩) := hF.at_ 9 _ (by simp)
  obtain rfl : u10 = .pointer (some ⟨LB, 0, none⟩) := hF.at_ 10 _ (by simp)
  obtain rfl : u11 = .func (.func 15) #[] #[.pointer (some ⟨TB, 0, none⟩), .pointer (some ⟨AB, 0, none⟩), .pointer (some ⟨LB, 0, none⟩), .pointer (some ⟨WB, 0, none⟩)] := hF.at_ 11 _ (by simp)
  obtain rfl : u12 = .int .i64 (i : Int) := hF.at_ 12 _ (by simp)
  clear hF
  have HQ := Lib.hid hQ; clear hQ
  conv => arg 2; whnf
  have hd : ¬ i < len := by omega
  go_wp2
  exact HQ.out _ ⟨rfl, rfl, by simp⟩
set_option maxRecDepth 100000 in
theorem ord3_go (base : Nat) (w0 w : World) (TB AB LB WB tb rb n nx : Nat) (nn : Int) (h : TS base w0 w TB AB LB WB tb rb n nx) (hn0 : 0 < n) (hn : n ≤ 32) (hne : TB ≠ AB ∧ TB ≠ LB ∧ AB ≠ LB) (k j jj : Nat) (hk : 1 ≤ k) (hj : k ≤ j) (hj2 : j ≤ 300) (hjj : jj + 1 = j)
    (N R : Act → World → Prop) (X : Nat → Act → World → Prop) (a : Act) (hF : Fr a 106 [(2, .int .i64 nn), (3, .pointer (some ⟨WB, 0, none⟩)), (9, .pointer (some ⟨AB, 0, none⟩)), (10, .pointer (some ⟨LB, 0, none⟩)), (11, .func (.func 15) #[] #[.pointer (some ⟨TB, 0, none⟩), .pointer (some ⟨AB, 0, none⟩), .pointer (some ⟨LB, 0, none⟩), .pointer (some ⟨WB, 0, none⟩)]), (13, .int .u64 (k : Int)), (14, .int .u64 (j : Int))])
    (hQ : ∀ a w' nx', Fr a 106 [(2, .int .i64 nn), (3, .pointer (some ⟨WB, 0, none⟩)), (9, .pointer (some ⟨AB, 0, none⟩)), (10, .pointer (some ⟨LB, 0, none⟩)), (11, .func (.func 15) #[] #[.pointer (some ⟨TB, 0, none⟩), .pointer (some ⟨AB, 0, none⟩), .pointer (some ⟨LB, 0, none⟩), .pointer (some ⟨WB, 0, none⟩)]), (13, .int .u64 (k : Int)), (14, .int .u64 (jj : Int))] → TS base w0 w' TB AB LB WB tb rb n nx' → nx ≤ nx' → (j = nx → nx + 1 ≤ nx') → N a w') : ord3.wp Try.prog (Outs N X R) a w := by
  revert hF
  refine fun hF => frames106 (P := fun a => Fr a 106 [(2, .int .i64 nn), (3, .pointer (some ⟨WB, 0, none⟩)), (9, .pointer (some ⟨AB, 0, none⟩)), (10, .pointer (some ⟨LB, 0, none⟩)), (11, .func (.func 15) #[] #[.pointer (some ⟨TB, 0, none⟩), .pointer (some ⟨AB, 0, none⟩), .pointer (some ⟨LB, 0, none⟩), .pointer (some ⟨WB, 0, none⟩)]), (13, .int .u64 (k : Int)), (14, .int .u64 (j : Int))] → ord3.wp Try.prog (Outs N X R) a w) ?_ a hF.1 hF.2.1 hF
  intro u0 u1 u2 u3 u4 u5 u6 u7 u8 u9 u10 u11 u12 u13 u14 u15 u16 u17 u18 u19 u20 u21 u22 u23 u24 u25 u26 u27 u28 u29 u30 u31 u32 u33 u34 u35 u36 u37 u38 u39 u40 u41 u42 u43 u44 u45 u46 u47 u48 u49 u50 u51 u52 u53 u54 u55 u56 u57 u58 u59 u60 u61 u62 u63 u64 u65 u66 u67 u68 u69 u70 u71 u72 u73 u74 u75 u76 u77 u78 u79 u80 u81 u82 u83 u84 u85 u86 u87 u88 u89 u90 u91 u92 u93 u94 u95 u96 u97 u98 u99 u100 u101 u102 u103 u104 u105 hF
  obtain rfl : u2 = .int .i64 nn := hF.at_ 2 _ (by simp)
  obtain rfl : u3 = .pointer (some ⟨WB, 0, none⟩) := hF.at_ 3 _ (by simp)
  obtain rfl : u9 = .pointer (some ⟨AB, 0, none⟩) := hF.at_ 9 _ (by simp)
  obtain rfl : u10 = .pointer (some ⟨LB, 0, none⟩) := hF.at_ 10 _ (by simp)
  obtain rfl : u11 = .func (.func 15) #[] #[.pointer (some ⟨TB, 0, none⟩), .pointer (some ⟨AB, 0, none⟩), .pointer (some ⟨LB, 0, none⟩), .pointer (some ⟨WB, 0, none⟩)] := hF.at_ 11 _ (by simp)
  obtain rfl : u13 = .int .u64 (k : Int) := hF.at_ 13 _ (by simp)
  obtain rfl : u14 = .int .u64 (j : Int) := hF.at_ 14 _ (by simp)
  clear hF
  have HQ := Lib.hid hQ; clear hQ
  conv => arg 2; whnf
  have hjx : ((j : Int) - 1) = (jj : Int) := by omega
  obtain ⟨rs, a, c, hO, hI, hFr, hB⟩ := h
  have hstep := Lib.hid (take_step base w TB AB LB WB tb rb n nx 300 rs a c j hO hI hFr hn0 (by omega) (by omega) (by omega) hne)
  clear hO hI hFr
  go_wp2_with (go_at_call 15; refine hstep.out.mono ?_; rintro e w1 ⟨rfl, hB1, nx1, rs1, a1, c1, hO1, hI1, hFr1, hm1, hm2⟩)
  refine HQ.out _ _ nx1 ⟨rfl, rfl, by simp⟩ ⟨rs1, a1, c1, hO1, hI1, hFr1, hB.trans hB1⟩ hm1 hm2
set_option maxRecDepth 100000 in
theorem ord3_end (base : Nat) (w0 w : World) (TB AB LB WB tb rb n nx : Nat) (nn : Int) (h : TS base w0 w TB AB LB WB tb rb n nx) (hn0 : 0 < n) (hn : n ≤ 32) (hne : TB ≠ AB ∧ TB ≠ LB ∧ AB ≠ LB) (k j : Nat) (hj : j < k)
    (N R : Act → World → Prop) (X : Nat → Act → World → Prop) (a : Act) (hF : Fr a 106 [(2, .int .i64 nn), (3, .pointer (some ⟨WB, 0, none⟩)), (9, .pointer (some ⟨AB, 0, none⟩)), (10, .pointer (some ⟨LB, 0, none⟩)), (11, .func (.func 15) #[] #[.pointer (some ⟨TB, 0, none⟩), .pointer (some ⟨AB, 0, none⟩), .pointer (some ⟨LB, 0, none⟩), .pointer (some ⟨WB, 0, none⟩)]), (13, .int .u64 (k : Int)), (14, .int .u64 (j : Int))])
    (hQ : ∀ a, Fr a 106 [(2, .int .i64 nn), (3, .pointer (some ⟨WB, 0, none⟩)), (9, .pointer (some ⟨AB, 0, none⟩)), (10, .pointer (some ⟨LB, 0, none⟩)), (11, .func (.func 15) #[] #[.pointer (some ⟨TB, 0, none⟩), .pointer (some ⟨AB, 0, none⟩), .pointer (some ⟨LB, 0, none⟩), .pointer (some ⟨WB, 0, none⟩)]), (13, .int .u64 (k : Int)), (14, .int .u64 (j : Int))] → X 4 a w) : ord3.wp Try.prog (Outs N X R) a w := by
  revert hF
  refine fun hF => frames106 (P := fun a => Fr a 106 [(2, .int .i64 nn), (3, .pointer (some ⟨WB, 0, none⟩)), (9, .pointer (some ⟨AB, 0, none⟩)), (10, .pointer (some ⟨LB, 0, none⟩)), (11, .func (.func 15) #[] #[.pointer (some ⟨TB, 0, none⟩), .pointer (some ⟨AB, 0, none⟩), .pointer (some ⟨LB, 0, none⟩), .pointer (some ⟨WB, 0, none⟩)]), (13, .int .u64 (k : Int)), (14, .int .u64 (j : Int))] → ord3.wp Try.prog (Outs N X R) a w) ?_ a hF.1 hF.2.1 hF
  intro u0 u1 u2 u3 u4 u5 u6 u7 u8 u9 u10 u11 u12 u13 u14 u15 u16 u17 u18 u19 u20 u21 u22 u23 u24 u25 u26 u27 u28 u29 u30 u31 u32 u33 u34 u35 u36 u37 u38 u39 u40 u41 u42 u43 u44 u45 u46 u47 u48 u49 u50 u51 u52 u53 u54 u55 u56 u57 u58 u59 u60 u61 u62 u63 u64 u65 u66 u67 u68 u69 u70 u71 u72 u73 u74 u75 u76 u77 u78 u79 u80 u81 u82 u83 u84 u85 u86 u87 u88 u89 u90 u91 u92 u93 u94 u95 u96 u97 u98 u99 u100 u101 u102 u103 u104 u105 hF
  obtain rfl : u2 = .int .i64 nn := hF.at_ 2 _ (by simp)
  obtain rfl : u3 = .pointer (some ⟨WB, 0, none⟩) := hF.at_ 3 _ (by simp)
  obtain rfl : u9 = .pointer (some ⟨AB, 0, none⟩) := hF.at_ 9 _ (by simp)
  obtain rfl : u10 = .pointer (some ⟨LB, 0, none⟩) := hF.at_ 10 _ (by simp)
  obtain rfl : u11 = .func (.func 15) #[] #[.pointer (some ⟨TB, 0, none⟩), .pointer (some ⟨AB, 0, none⟩), .pointer (some ⟨LB, 0, none⟩), .pointer (some ⟨WB, 0, none⟩)] := hF.at_ 11 _ (by simp)
  obtain rfl : u13 = .int .u64 (k : Int) := hF.at_ 13 _ (by simp)
  obtain rfl : u14 = .int .u64 (j : Int) := hF.at_ 14 _ (by simp)
  clear hF
  have HQ := Lib.hid hQ; clear hQ
  conv => arg 2; whnf
  have hd : ¬ k ≤ j := by omega
  go_wp2
  exact HQ.out _ ⟨rfl, rfl, by simp⟩
theorem pks_cell (l : List Pk) (i j : Nat) (hj : j < 11) (p : Pk) (hp : l[i]? = some p) : (pks l)[i * 11 + j]? = p.cells[j]? := Mem.flat_cell cells_length l i j hj p hp
theorem mks_get (nx i : Nat) (h : i + 1 < nx) : (mks 1 nx)[i]? = some (pkt (i + 1)) := by
  unfold mks
  rw [List.getElem?_map, List.getElem?_range' (by omega)]
  simp [Nat.add_comm]
set_option maxRecDepth 100000 in
theorem ord4_go (base : Nat) (w0 w : World) (TB AB LB WB tb rb n nx : Nat) (nn : Int) (h : TS base w0 w TB AB LB WB tb rb n nx) (hn0 : 0 < n) (hn : n ≤ 32) (hne : TB ≠ AB ∧ TB ≠ LB ∧ AB ≠ LB) (i : Nat) (hi : i + 1 < nx) (hnx : nx ≤ 1000)
    (N R : Act → World → Prop) (X : Nat → Act → World → Prop) (a : Act) (hF : Fr a 106 [(2, .int .i64 nn), (3, .pointer (some ⟨WB, 0, none⟩)), (9, .pointer (some ⟨AB, 0, none⟩)), (10, .pointer (some ⟨LB, 0, none⟩)), (11, .func (.func 15) #[] #[.pointer (some ⟨TB, 0, none⟩), .pointer (some ⟨AB, 0, none⟩), .pointer (some ⟨LB, 0, none⟩), .pointer (some ⟨WB, 0, none⟩)]), (15, .int .i64 (i : Int))])
    (hQ : ∀ a, Fr a 106 [(2, .int .i64 nn), (3, .pointer (some ⟨WB, 0, none⟩)), (9, .pointer (some ⟨AB, 0, none⟩)), (10, .pointer (some ⟨LB, 0, none⟩)), (11, .func (.func 15) #[] #[.pointer (some ⟨TB, 0, none⟩), .pointer (some ⟨AB, 0, none⟩), .pointer (some ⟨LB, 0, none⟩), .pointer (some ⟨WB, 0, none⟩)]), (15, .int .i64 (i + 1 : Nat))] → N a w) : ord4.wp Try.prog (Outs N X R) a w := by
  revert hF
  refine fun hF => frames106 (P := fun a => Fr a 106 [(2, .int .i64 nn), (3, .pointer (some ⟨WB, 0, none⟩)), (9, .pointer (some ⟨AB, 0, none⟩)), (10, .pointer (some ⟨LB, 0, none⟩)), (11, .func (.func 15) #[] #[.pointer (some ⟨TB, 0, none⟩), .pointer (some ⟨AB, 0, none⟩), .pointer (some ⟨LB, 0, none⟩), .pointer (some ⟨WB, 0, none⟩)]), (15, .int .i64 (i : Int))] → ord4.wp Try.prog (Outs N X R) a w) ?_ a hF.1 hF.2.1 hF
  intro u0 u1 u2 u3 u4 u5 u6 u7 u8 u9 u10 u11 u12 u13 u14 u15 u16 u17 u18 u19 u20 u21 u22 u23 u24 u25 u26 u27 u28 u29 u30 u31 u32 u33 u34 u35 u36 u37 u38 u39 u40 u41 u42 u43 u44 u45 u46 u47 u48 u49 u50 u51 u52 u53 u54 u55 u56 u57 u58 u59 u60 u61 u62 u63 u64 u65 u66 u67 u68 u69 u70 u71 u72 u73 u74 u75 u76 u77 u78 u79 u80 u81 u82 u83 u84 u85 u86 u87 u88 u89 u90 u91 u92 u93 u94 u95 u96 u97 u98 u99 u100 u101 u102 u103 u104 u105 hF
  obtain rfl : u2 = .int .i64 nn := hF.at_ 2 _ (by simp)
  obtain rfl : u3 = .pointer (some ⟨WB, 0, none⟩) := hF.at_ 3 _ (by simp)
  obtain rfl : u9 = .pointer (some ⟨AB, 0, none⟩) := hF.at_ 9 _ (by simp)
  obtain rfl : u10 = .pointer (some ⟨LB, 0, none⟩) := hF.at_ 10 _ (by simp)
  obtain rfl : u11 = .func (.func 15) #[] #[.pointer (some ⟨TB, 0, none⟩), .pointer (some ⟨AB, 0, none⟩), .pointer (some ⟨LB, 0, none⟩), .pointer (some ⟨WB, 0, none⟩)] := hF.at_ 11 _ (by simp)
  obtain rfl : u15 = .int .i64 (i : Int) := hF.at_ 15 _ (by simp)
  clear hF
  have HQ := Lib.hid hQ; clear hQ
  conv => arg 2; whnf
  obtain ⟨rs, a, c, ⟨hTB, hAB, hLB, hWB, hT, hR, hO, b1, b2, b3, b4, b5⟩, hI, hFr, hB⟩ := h
  have hlen := mks_length 1 nx
  have aB0 := hAB.cell 0
  simp only [List.getElem?_cons_zero] at aB0
  rcases hO.2 with ⟨_, h0⟩ | ⟨g, cap, cur, hv, _, _, _⟩
  · omega
  simp only [Value.slice.injEq] at hv
  obtain ⟨rfl, _, rfl⟩ := hv
  have q2 := hO.cells (g := g) rfl (i * 11 + 2) _ (pks_cell _ i 2 (by omega) _ (mks_get nx i hi))
  have q4 := hO.cells (g := g) rfl (i * 11 + 4) _ (pks_cell _ i 4 (by omega) _ (mks_get nx i hi))
  rw [Addr.add_mid] at q2 q4
  simp only [Nat.zero_add] at q2 q4
  have ec : ((i + 1 : Nat) : Int) = (i : Int) + 1 := by omega
  replace q2 : w.cell? ⟨g, i * 11 + 2, none⟩ = some (.int .u64 ((i : Int) + 1)) := by rw [← ec]; exact q2
  replace q4 : w.cell? ⟨g, i * 11 + 4, none⟩ = some (.int .u32 ((i : Int) + 1)) := by rw [← ec]; exact q4
  clear ec
  have hil : i < (mks 1 nx).length := by omega
  have hmx : (mks 1 nx).length ≤ 1000 := by omega
  clear hO hlen
  generalize (mks 1 nx).length = L at *
  go_wp2
  exact HQ.out _ ⟨rfl, rfl, by simp⟩
set_option maxRecDepth 100000 in
theorem ord4_end (base : Nat) (w0 w : World) (TB AB LB WB tb rb n nx : Nat) (nn : Int) (h : TS base w0 w TB AB LB WB tb rb n nx) (hn0 : 0 < n) (hn : n ≤ 32) (hne : TB ≠ AB ∧ TB ≠ LB ∧ AB ≠ LB) (i : Nat) (hi : nx ≤ i + 1)
    (N R : Act → World → Prop) (X : Nat → Act → World → Prop) (a : Act) (hF : Fr a 106 [(2, .int .i64 nn), (3, .pointer (some ⟨WB, 0, none⟩)), (9, .pointer (some ⟨AB, 0, none⟩)), (10, .pointer (some ⟨LB, 0, none⟩)), (11, .func (.func 15) #[] #[.pointer (some ⟨TB, 0, none⟩), .pointer (some ⟨AB, 0, none⟩), .pointer (some ⟨LB, 0, none⟩), .pointer (some ⟨WB, 0, none⟩)]), (15, .int .i64 (i : Int))])
    (hQ : ∀ a, Fr a 106 [(2, .int .i64 nn), (3, .pointer (some ⟨WB, 0, none⟩)), (9, .pointer (some ⟨AB, 0, none⟩)), (10, .pointer (some ⟨LB, 0, none⟩)), (11, .func (.func 15) #[] #[.pointer (some ⟨TB, 0, none⟩), .pointer (some ⟨AB, 0, none⟩), .pointer (some ⟨LB, 0, none⟩), .pointer (some ⟨WB, 0, none⟩)]), (15, .int .i64 (i : Int))] → X 6 a w) : ord4.wp Try.prog (Outs N X R) a w := by
  revert hF
  refine fun hF => frames106 (P := fun a => Fr a 106 [(2, .int .i64 nn), (3, .pointer (some ⟨WB, 0, none⟩)), (9, .pointer (some ⟨AB, 0, none⟩)), (10, .pointer (some ⟨LB, 0, none⟩)), (11, .func (.func 15) #[] #[.pointer (some ⟨TB, 0, none⟩), .pointer (some ⟨AB, 0, none⟩), .pointer (some ⟨LB, 0, none⟩), .pointer (some ⟨WB, 0, none⟩)]), (15, .int .i64 (i : Int))] → ord4.wp Try.prog (Outs N X R) a w) ?_ a hF.1 hF.2.1 hF
  intro u0 u1 u2 u3 u4 u5 u6 u7 u8 u9 u10 u11 u12 u13 u14 u15 u16 u17 u18 u19 u20 u21 u22 u23 u24 u25 u26 u27 u28 u29 u30 u31 u32 u33 u34 u35 u36 u37 u38 u39 u40 u41 u42 u43 u44 u45 u46 u47 u48 u49 u50 u51 u52 u53 u54 u55 u56 u57 u58 u59 u60 u61 u62 u63 u64 u65 u66 u67 u68 u69 u70 u71 u72 u73 u74 u75 u76 u77 u78 u79 u80 u81 u82 u83 u84 u85 u86 u87 u88 u89 u90 u91 u92 u93 u94 u95 u96 u97 u98 u99 u100 u101 u102 u103 u104 u105 hF
  obtain rfl : u2 = .int .i64 nn := hF.at_ 2 _ (by simp)
  obtain rfl : u3 = .pointer (some ⟨WB, 0, none⟩) := hF.at_ 3 _ (by simp)
  obtain rfl : u9 = .pointer (some ⟨AB, 0, none⟩) := hF.at_ 9 _ (by simp)
  obtain rfl : u10 = .pointer (some ⟨LB, 0, none⟩) := hF.at_ 10 _ (by simp)
  obtain rfl : u11 = .func (.func 15) #[] #[.pointer (some ⟨TB, 0, none⟩), .pointer (some ⟨AB, 0, none⟩), .pointer (some ⟨LB, 0, none⟩), .pointer (some ⟨WB, 0, none⟩)] := hF.at_ 11 _ (by simp)
  obtain rfl : u15 = .int .i64 (i : Int) := hF.at_ 15 _ (by simp)
  clear hF
  have HQ := Lib.hid hQ; clear hQ
  conv => arg 2; whnf
  obtain ⟨rs, a, c, ⟨hTB, hAB, hLB, hWB, hT, hR, hO, b1, b2, b3, b4, b5⟩, hI, hFr, hB⟩ := h
  have hlen := mks_length 1 nx
  have aB0 := hAB.cell 0
  simp only [List.getElem?_cons_zero] at aB0
  have hd : ¬ i < (mks 1 nx).length := by have := hI.pos; omega
  clear hO hlen
  generalize (mks 1 nx).length = L at *
  go_wp2
  exact HQ.out _ ⟨rfl, rfl, by simp⟩
set_option maxRecDepth 100000 in
theorem ord2_end (base : Nat) (w0 w : World) (TB AB LB WB tb rb n nx : Nat) (nn : Int) (h : TS base w0 w TB AB LB WB tb rb n nx) (hn0 : 0 < n) (hn : n ≤ 32) (hne : TB ≠ AB ∧ TB ≠ LB ∧ AB ≠ LB) (Nn k : Nat) (hb : bits .and .i64 nn 255 = (Nn : Int)) (hN : Nn ≤ 255) (hk : Nn < k)
    (N R : Act → World → Prop) (X : Nat → Act → World → Prop) (a : Act) (hF : Fr a 106 [(2, .int .i64 nn), (3, .pointer (some ⟨WB, 0, none⟩)), (9, .pointer (some ⟨AB, 0, none⟩)), (10, .pointer (some ⟨LB, 0, none⟩)), (11, .func (.func 15) #[] #[.pointer (some ⟨TB, 0, none⟩), .pointer (some ⟨AB, 0, none⟩), .pointer (some ⟨LB, 0, none⟩), .pointer (some ⟨WB, 0, none⟩)]), (13, .int .u64 (k : Int))])
    (hQ : ∀ a, Fr a 106 [(2, .int .i64 nn), (3, .pointer (some ⟨WB, 0, none⟩)), (9, .pointer (some ⟨AB, 0, none⟩)), (10, .pointer (some ⟨LB, 0, none⟩)), (11, .func (.func 15) #[] #[.pointer (some ⟨TB, 0, none⟩), .pointer (some ⟨AB, 0, none⟩), .pointer (some ⟨LB, 0, none⟩), .pointer (some ⟨WB, 0, none⟩)]), (13, .int .u64 (k : Int))] → X 2 a w) : ord2.wp Try.prog (Outs N X R) a w := by
  revert hF
  refine fun hF => frames106 (P := fun a => Fr a 106 [(2, .int .i64 nn), (3, .pointer (some ⟨WB, 0, none⟩)), (9, .pointer (some ⟨AB, 0, none⟩)), (10, .pointer (some ⟨LB, 0, none⟩)), (11, .func (.func 15) #[] #[.pointer (some ⟨TB, 0, none⟩), .pointer (some ⟨AB, 0, none⟩), .pointer (some ⟨LB, 0, none⟩), .pointer (some ⟨WB, 0, none⟩)]), (13, .int .u64 (k : Int))] → ord2.wp Try.prog (Outs N X R) a w) ?_ a hF.1 hF.2.1 hF
  intro u0 u1 u2 u3 u4 u5 u6 u7 u8 u9 u10 u11 u12 u13 u14 u15 u16 u17 u18 u19 u20 u21 u22 u23 u24 u25 u26 u27 u28 u29 u30 u31 u32 u33 u34 u35 u36 u37 u38 u39 u40 u41 u42 u43 u44 u45 u46 u47 u48 u49 u50 u51 u52 u53 u54 u55 u56 u57 u58 u59 u60 u61 u62 u63 u64 u65 u66 u67 u68 u69 u70 u71 u72 u73 u74 u75 u76 u77 u78 u79 u80 u81 u82 u83 u84 u85 u86 u87 u88 u89 u90 u91 u92 u93 u94 u95 u96 u97 u98 u99 u100 u101 u102 u103 u104 u105 hF
  obtain rfl : u2 = .int .i64 nn := hF.at_ 2 _ (by simp)
  obtain rfl : u3 = .pointer (some ⟨WB, 0, none⟩) := hF.at_ 3 _ (by simp)
  obtain rfl : u9 = .pointer (some ⟨AB, 0, none⟩) := hF.at_ 9 _ (by simp)
  obtain rfl : u10 = .pointer (some ⟨LB, 0, none⟩) := hF.at_ 10 _ (by simp)
  obtain rfl : u11 = .func (.func 15) #[] #[.pointer (some ⟨TB, 0, none⟩), .pointer (some ⟨AB, 0, none⟩), .pointer (some ⟨LB, 0, none⟩), .pointer (some ⟨WB, 0, none⟩)] := hF.at_ 11 _ (by simp)
  obtain rfl : u13 = .int .u64 (k : Int) := hF.at_ 13 _ (by simp)
  clear hF
  have HQ := Lib.hid hQ; clear hQ
  conv => arg 2; whnf
  have hd : ¬ k ≤ Nn := by omega
  go_wp2
  exact HQ.out _ ⟨rfl, rfl, by simp⟩
set_option maxRecDepth 100000 in
theorem ord2_go (base : Nat) (w0 w : World) (TB AB LB WB tb rb n nx : Nat) (nn : Int) (h : TS base w0 w TB AB LB WB tb rb n nx) (hn0 : 0 < n) (hn : n ≤ 32) (hne : TB ≠ AB ∧ TB ≠ LB ∧ AB ≠ LB) (Nn k : Nat) (hb : bits .and .i64 nn 255 = (Nn : Int)) (hN : Nn ≤ 255) (hk : k ≤ Nn) (hk1 : 1 ≤ k) (hkn : k ≤ nx)
    (N R : Act → World → Prop) (X : Nat → Act → World → Prop) (a : Act) (hF : Fr a 106 [(2, .int .i64 nn), (3, .pointer (some ⟨WB, 0, none⟩)), (9, .pointer (some ⟨AB, 0, none⟩)), (10, .pointer (some ⟨LB, 0, none⟩)), (11, .func (.func 15) #[] #[.pointer (some ⟨TB, 0, none⟩), .pointer (some ⟨AB, 0, none⟩), .pointer (some ⟨LB, 0, none⟩), .pointer (some ⟨WB, 0, none⟩)]), (13, .int .u64 (k : Int))])
    (hQ : ∀ a w' nx', Fr a 106 [(2, .int .i64 nn), (3, .pointer (some ⟨WB, 0, none⟩)), (9, .pointer (some ⟨AB, 0, none⟩)), (10, .pointer (some ⟨LB, 0, none⟩)), (11, .func (.func 15) #[] #[.pointer (some ⟨TB, 0, none⟩), .pointer (some ⟨AB, 0, none⟩), .pointer (some ⟨LB, 0, none⟩), .pointer (some ⟨WB, 0, none⟩)]), (13, .int .u64 (k + 1 : Nat))] → TS base w0 w' TB AB LB WB tb rb n nx' → k + 1 ≤ nx' → N a w') : ord2.wp Try.prog (Outs N X R) a w := by
  revert hF
  refine fun hF => frames106 (P := fun a => Fr a 106 [(2, .int .i64 nn), (3, .pointer (some ⟨WB, 0, none⟩)), (9, .pointer (some ⟨AB, 0, none⟩)), (10, .pointer (some ⟨LB, 0, none⟩)), (11, .func (.func 15) #[] #[.pointer (some ⟨TB, 0, none⟩), .pointer (some ⟨AB, 0, none⟩), .pointer (some ⟨LB, 0, none⟩), .pointer (some ⟨WB, 0, none⟩)]), (13, .int .u64 (k : Int))] → ord2.wp Try.prog (Outs N X R) a w) ?_ a hF.1 hF.2.1 hF
  intro u0 u1 u2 u3 u4 u5 u6 u7 u8 u9 u10 u11 u12 u13 u14 u15 u16 u17 u18 u19 u20 u21 u22 u23 u24 u25 u26 u27 u28 u29 u30 u31 u32 u33 u34 u35 u36 u37 u38 u39 u40 u41 u42 u43 u44 u45 u46 u47 u48 u49 u50 u51 u52 u53 u54 u55 u56 u57 u58 u59 u60 u61 u62 u63 u64 u65 u66 u67 u68 u69 u70 u71 u72 u73 u74 u75 u76 u77 u78 u79 u80 u81 u82 u83 u84 u85 u86 u87 u88 u89 u90 u91 u92 u93 u94 u95 u96 u97 u98 u99 u100 u101 u102 u103 u104 u105 hF
  obtain rfl : u2 = .int .i64 nn := hF.at_ 2 _ (by simp)
  obtain rfl : u3 = .pointer (some ⟨WB, 0, none⟩) := hF.at_ 3 _ (by simp)
  obtain rfl : u9 = .pointer (some ⟨AB, 0, none⟩) := hF.at_ 9 _ (by simp)
  obtain rfl : u10 = .pointer (some ⟨LB, 0, none⟩) := hF.at_ 10 _ (by simp)
  obtain rfl : u11 = .func (.func 15) #[] #[.pointer (some ⟨TB, 0, none⟩), .pointer (some ⟨AB, 0, none⟩), .pointer (some ⟨LB, 0, none⟩), .pointer (some ⟨WB, 0, none⟩)] := hF.at_ 11 _ (by simp)
  obtain rfl : u13 = .int .u64 (k : Int) := hF.at_ 13 _ (by simp)
  clear hF
  have HQ := Lib.hid hQ; clear hQ
  conv => arg 2; whnf
  have wB0 : w.cell? ⟨WB, 0, none⟩ = some (.int .i64 (n : Int)) := by
    obtain ⟨rs, a, c, hO, _⟩ := h
    exact hO.2.2.2.1.cell 0
  have HT := Lib.hid h; clear h
  have hj : (k : Int) + (n : Int) - 1 = ((k + n - 1 : Nat) : Int) := by omega
  have hjw : IntKind.u64.wrap ((k : Int) + (n : Int)) = (k : Int) + (n : Int) := IntWalk.u64_in _ (by omega)
  go_wp2
  refine wp_loop_ghost (fun m a w' => ∃ j nx', m = j + 1 - k ∧ k ≤ j + 1 ∧ j ≤ 300 ∧ Fr a 106 [(2, .int .i64 nn), (3, .pointer (some ⟨WB, 0, none⟩)), (9, .pointer (some ⟨AB, 0, none⟩)), (10, .pointer (some ⟨LB, 0, none⟩)), (11, .func (.func 15) #[] #[.pointer (some ⟨TB, 0, none⟩), .pointer (some ⟨AB, 0, none⟩), .pointer (some ⟨LB, 0, none⟩), .pointer (some ⟨WB, 0, none⟩)]), (13, .int .u64 (k : Int)), (14, .int .u64 (j : Int))] ∧ TS base w0 w' TB AB LB WB tb rb n nx' ∧ k ≤ nx' ∧ (j + 1 = k → k + 1 ≤ nx')) n ?_ ?_
  · exact ⟨k + n - 1, nx, by omega, by omega, by omega, ⟨rfl, rfl, by simp⟩, HT.out, hkn, by omega⟩
  · rintro m a w' ⟨j, nx', rfl, hj1, hj2, hF', hS, hk2, hk3⟩
    by_cases hlt : k ≤ j
    · obtain ⟨jj, rfl⟩ : ∃ jj, j = jj + 1 := ⟨j - 1, by omega⟩
      refine wp_mono (ord3_go base w0 w' TB AB LB WB tb rb n nx' nn hS hn0 hn hne k (jj + 1) jj hk1 hlt hj2 rfl (fun a' w'' => ∃ nx'', Fr a' 106 [(2, .int .i64 nn), (3, .pointer (some ⟨WB, 0, none⟩)), (9, .pointer (some ⟨AB, 0, none⟩)), (10, .pointer (some ⟨LB, 0, none⟩)), (11, .func (.func 15) #[] #[.pointer (some ⟨TB, 0, none⟩), .pointer (some ⟨AB, 0, none⟩), .pointer (some ⟨LB, 0, none⟩), .pointer (some ⟨WB, 0, none⟩)]), (13, .int .u64 (k : Int)), (14, .int .u64 (jj : Int))] ∧ TS base w0 w'' TB AB LB WB tb rb n nx'' ∧ nx' ≤ nx'' ∧ (jj + 1 = nx' → nx' + 1 ≤ nx'')) (fun _ _ => False) (fun _ _ _ => False) a hF' (fun a' w'' nx'' h1 h2 h3 h4 => ⟨nx'', h1, h2, h3, h4⟩)) ?_
      refine Outs.mono ?_ (fun _ _ _ h => h.elim) (fun _ _ h => h.elim)
      rintro a' w'' ⟨nx'', h1, h2, h3, h4⟩
      refine ⟨_, by omega, jj, nx'', rfl, by omega, by omega, h1, h2, by omega, ?_⟩
      intro e
      by_cases e2 : jj + 1 = nx'
      · have := h4 e2; omega
      · omega
    · refine wp_mono (ord3_end base w0 w' TB AB LB WB tb rb n nx' nn hS hn0 hn hne k j (by omega) (fun _ _ => False) (fun _ _ => False) (fun m a' w'' => m = 4 ∧ w'' = w' ∧ Fr a' 106 [(2, .int .i64 nn), (3, .pointer (some ⟨WB, 0, none⟩)), (9, .pointer (some ⟨AB, 0, none⟩)), (10, .pointer (some ⟨LB, 0, none⟩)), (11, .func (.func 15) #[] #[.pointer (some ⟨TB, 0, none⟩), .pointer (some ⟨AB, 0, none⟩), .pointer (some ⟨LB, 0, none⟩), .pointer (some ⟨WB, 0, none⟩)]), (13, .int .u64 (k : Int)), (14, .int .u64 (j : Int))]) a hF' (fun a' h1 => ⟨rfl, rfl, h1⟩)) ?_
      refine Outs.mono (fun _ _ h => h.elim) ?_ (fun _ _ h => h.elim)
      rintro m a' w'' ⟨rfl, rfl, hF''⟩
      have hk4 := hk3 (by omega)
      refine frames106 (P := fun a => Fr a 106 [(2, .int .i64 nn), (3, .pointer (some ⟨WB, 0, none⟩)), (9, .pointer (some ⟨AB, 0, none⟩)), (10, .pointer (some ⟨LB, 0, none⟩)), (11, .func (.func 15) #[] #[.pointer (some ⟨TB, 0, none⟩), .pointer (some ⟨AB, 0, none⟩), .pointer (some ⟨LB, 0, none⟩), .pointer (some ⟨WB, 0, none⟩)]), (13, .int .u64 (k : Int)), (14, .int .u64 (j : Int))] → Exit.then _ _ _ a w'') ?_ a' hF''.1 hF''.2.1 hF''
      intro v0 v1 v2 v3 v4 v5 v6 v7 v8 v9 v10 v11 v12 v13 v14 v15 v16 v17 v18 v19 v20 v21 v22 v23 v24 v25 v26 v27 v28 v29 v30 v31 v32 v33 v34 v35 v36 v37 v38 v39 v40 v41 v42 v43 v44 v45 v46 v47 v48 v49 v50 v51 v52 v53 v54 v55 v56 v57 v58 v59 v60 v61 v62 v63 v64 v65 v66 v67 v68 v69 v70 v71 v72 v73 v74 v75 v76 v77 v78 v79 v80 v81 v82 v83 v84 v85 v86 v87 v88 v89 v90 v91 v92 v93 v94 v95 v96 v97 v98 v99 v100 v101 v102 v103 v104 v105 hF
      obtain rfl : v2 = .int .i64 nn := hF.at_ 2 _ (by simp)
      obtain rfl : v3 = .pointer (some ⟨WB, 0, none⟩) := hF.at_ 3 _ (by simp)
      obtain rfl : v9 = .pointer (some ⟨AB, 0, none⟩) := hF.at_ 9 _ (by simp)
      obtain rfl : v10 = .pointer (some ⟨LB, 0, none⟩) := hF.at_ 10 _ (by simp)
      obtain rfl : v11 = .func (.func 15) #[] #[.pointer (some ⟨TB, 0, none⟩), .pointer (some ⟨AB, 0, none⟩), .pointer (some ⟨LB, 0, none⟩), .pointer (some ⟨WB, 0, none⟩)] := hF.at_ 11 _ (by simp)
      obtain rfl : v13 = .int .u64 (k : Int) := hF.at_ 13 _ (by simp)
      obtain rfl : v14 = .int .u64 (j : Int) := hF.at_ 14 _ (by simp)
      clear hF hF'' hF' HT
      go_wp2
      exact HQ.out _ _ nx' ⟨rfl, rfl, by simp⟩ hS hk4
end Take
end Go.Proofs.Ytndghakagogmcaa
