/-
  AnyB: TreeAny: the loop that puts into the first tree.
-/
import Derived.Test.YtndghakagogmcaaAnyA
import Derived.Test.YtndghakagogmcaaFr181
namespace Go.Proofs.Ytndghakagogmcaa
open Go.RowKit Go.Shelf
set_option linter.unusedVariables false
set_option linter.unusedSimpArgs false
attribute [local go_sem] Oper.semAt_some
namespace Tree
open Mem BT
noncomputable def anyLs : List Code := loops (Try.f10.body.getD .skip)
noncomputable def any0 : Code := anyLs.getD 0 .skip
noncomputable def any1 : Code := anyLs.getD 1 .skip
noncomputable def any2 : Code := anyLs.getD 2 .skip
noncomputable def any3 : Code := anyLs.getD 3 .skip
set_option maxHeartbeats 4000000 in
set_option maxRecDepth 100000 in
theorem any0_go (w0 W : World) (BB : Nat) (b : Bx) (T1 T2 : Nat) (L1 L2 : List (Nat × Bx)) (la oa : Option Addr) (lc oc : Nat) (l : List (Nat × Bx)) (os : List Int) (hA : AnySt w0 W BB b T1 T2 L1 L2) (hll : (l.length : Int) ≤ 300) (hol : (os.length : Int) ≤ 300) (i : Nat) (hi : (i : Int) < l.length) (lb off : Nat) (p : Nat × Bx) (hla : la = some ⟨lb, off, none⟩) (hlb : lb < w0.heap.size) (hp : El32 p) (hc : ∀ j u, (pairCells p)[j]? = some u → w0.cell? ⟨lb, off + i * 5 + j, none⟩ = some u) (X : Nat → Act → World → Prop) (R : Act → World → Prop) (a : Act) (hF : Fr a 181 [(0, .slice la l.length lc), (1, .slice oa os.length oc), (5, .pointer (some ⟨BB, 0, none⟩)), (7, .pointer (some ⟨T1, 0, none⟩)), (8, .pointer (some ⟨T2, 0, none⟩)), (9, .int .i64 (i : Int))]) :
    any0.wp Try.prog (Outs (fun a' W' => Fr a' 181 [(0, .slice la l.length lc), (1, .slice oa os.length oc), (5, .pointer (some ⟨BB, 0, none⟩)), (7, .pointer (some ⟨T1, 0, none⟩)), (8, .pointer (some ⟨T2, 0, none⟩)), (9, .int .i64 ((i + 1 : Nat) : Int))] ∧ AnySt w0 W' BB b T1 T2 (put1 L1 p) L2) X R) a W := by
  subst hla
  revert hF
  refine fun hF => frames181 (P := fun a => Fr a 181 [(0, .slice (some ⟨lb, off, none⟩) l.length lc), (1, .slice oa os.length oc), (5, .pointer (some ⟨BB, 0, none⟩)), (7, .pointer (some ⟨T1, 0, none⟩)), (8, .pointer (some ⟨T2, 0, none⟩)), (9, .int .i64 (i : Int))] → any0.wp Try.prog (Outs (fun a' W' => Fr a' 181 [(0, .slice (some ⟨lb, off, none⟩) l.length lc), (1, .slice oa os.length oc), (5, .pointer (some ⟨BB, 0, none⟩)), (7, .pointer (some ⟨T1, 0, none⟩)), (8, .pointer (some ⟨T2, 0, none⟩)), (9, .int .i64 ((i + 1 : Nat) : Int))] ∧ AnySt w0 W' BB b T1 T2 (put1 L1 p) L2) X R) a W) ?_ a hF.1 hF.2.1 hF
  intro u0 u1 u2 u3 u4 u5 u6 u7 u8 u9 u10 u11 u12 u13 u14 u15 u16 u17 u18 u19 u20 u21 u22 u23 u24 u25 u26 u27 u28 u29 u30 u31 u32 u33 u34 u35 u36 u37 u38 u39 u40 u41 u42 u43 u44 u45 u46 u47 u48 u49 u50 u51 u52 u53 u54 u55 u56 u57 u58 u59 u60 u61 u62 u63 u64 u65 u66 u67 u68 u69 u70 u71 u72 u73 u74 u75 u76 u77 u78 u79 u80 u81 u82 u83 u84 u85 u86 u87 u88 u89 u90 u91 u92 u93 u94 u95 u96 u97 u98 u99 u100 u101 u102 u103 u104 u105 u106 u107 u108 u109 u110 u111 u112 u113 u114 u115 u116 u117 u118 u119 u120 u121 u122 u123 u124 u125 u126 u127 u128 u129 u130 u131 u132 u133 u134 u135 u136 u137 u138 u139 u140 u141 u142 u143 u144 u145 u146 u147 u148 u149 u150 u151 u152 u153 u154 u155 u156 u157 u158 u159 u160 u161 u162 u163 u164 u165 u166 u167 u168 u169 u170 u171 u172 u173 u174 u175 u176 u177 u178 u179 u180 hF
  obtain rfl : u0 = .slice (some ⟨lb, off, none⟩) l.length lc := hF.at_ 0 _ (by simp)
  obtain rfl : u1 = .slice oa os.length oc := hF.at_ 1 _ (by simp)
  obtain rfl : u5 = .pointer (some ⟨BB, 0, none⟩) := hF.at_ 5 _ (by simp)
  obtain rfl : u7 = .pointer (some ⟨T1, 0, none⟩) := hF.at_ 7 _ (by simp)
  obtain rfl : u8 = .pointer (some ⟨T2, 0, none⟩) := hF.at_ 8 _ (by simp)
  obtain rfl : u9 = .int .i64 (i : Int) := hF.at_ 9 _ (by simp)
  clear hF
  obtain ⟨id, bx⟩ := p
  have hz : (0 : Int) ≤ (i : Int) := by omega
  have hr := Rows5.at_ hA.2.1 hlb hc
  have hr0 := hr 0 _ rfl
  have hr1 := hr 1 _ rfl
  have hr2 := hr 2 _ rfl
  have hr3 := hr 3 _ rfl
  have hr4 := hr 4 _ rfl
  simp only [Nat.add_zero] at hr0
  have hAd := hA.same (Keeps.refl _ W).drew
  obtain ⟨S1, hT, hdid⟩ := hAd.one
  have HP := Lib.hid (put_t T1 S1 L1 id bx W.drew hT hp)
  have HD := Lib.hid hdid
  have HC := Lib.hid hc
  have HA := Lib.hid hA
  clear hA hAd hT hdid hr hc
  conv => arg 2; whnf
  go_wp2
  go_region_held3 (fun W' => W'.cell? ⟨lb, off + i * 5, none⟩ = some (.int .u32 (id : Int)) ∧ W'.cell? ⟨lb, off + i * 5 + 1, none⟩ = some (.int .i32 bx.x0) ∧ W'.cell? ⟨lb, off + i * 5 + 2, none⟩ = some (.int .i32 bx.y0) ∧ W'.cell? ⟨lb, off + i * 5 + 3, none⟩ = some (.int .i32 bx.x1) ∧ W'.cell? ⟨lb, off + i * 5 + 4, none⟩ = some (.int .i32 bx.y1)) (first | with_reducible assumption | exact ⟨hr0, hr1, hr2, hr3, hr4⟩)
    (first | (go_at_call 20; (with_reducible refine HP.out.mono ?_); intro e w1 hd; obtain ⟨rfl, hA1⟩ := HD.out _ e w1 hd; clear hd; have HA1 := Lib.hid hA1; have hS1 := (fun hr => And.intro (hr 0 _ rfl) (And.intro (hr 1 _ rfl) (And.intro (hr 2 _ rfl) (And.intro (hr 3 _ rfl) (hr 4 _ rfl))))) (Rows5.at_ hA1.2.1 hlb HC.out); clear hA1; simp only [Nat.add_zero] at hS1))
  go_wp2
  exact ⟨⟨rfl, rfl, by simp⟩, HA1.out⟩
set_option maxRecDepth 100000 in
theorem any0_end (W : World) (BB T1 T2 : Nat) (la oa : Option Addr) (lc oc n m : Nat) (N : Act → World → Prop) (R : Act → World → Prop) (a : Act) (hF : Fr a 181 [(0, .slice la n lc), (1, .slice oa m oc), (5, .pointer (some ⟨BB, 0, none⟩)), (7, .pointer (some ⟨T1, 0, none⟩)), (8, .pointer (some ⟨T2, 0, none⟩)), (9, .int .i64 (n : Int))]) :
    any0.wp Try.prog (Outs N (fun x a' W' => x = 0 ∧ W' = W ∧ Fr a' 181 [(0, .slice la n lc), (1, .slice oa m oc), (5, .pointer (some ⟨BB, 0, none⟩)), (7, .pointer (some ⟨T1, 0, none⟩)), (8, .pointer (some ⟨T2, 0, none⟩))]) R) a W := by
  revert hF
  refine fun hF => frames181 (P := fun a => Fr a 181 [(0, .slice la n lc), (1, .slice oa m oc), (5, .pointer (some ⟨BB, 0, none⟩)), (7, .pointer (some ⟨T1, 0, none⟩)), (8, .pointer (some ⟨T2, 0, none⟩)), (9, .int .i64 (n : Int))] → any0.wp Try.prog (Outs N (fun x a' W' => x = 0 ∧ W' = W ∧ Fr a' 181 [(0, .slice la n lc), (1, .slice oa m oc), (5, .pointer (some ⟨BB, 0, none⟩)), (7, .pointer (some ⟨T1, 0, none⟩)), (8, .pointer (some ⟨T2, 0, none⟩))]) R) a W) ?_ a hF.1 hF.2.1 hF
  intro u0 u1 u2 u3 u4 u5 u6 u7 u8 u9 u10 u11 u12 u13 u14 u15 u16 u17 u18 u19 u20 u21 u22 u23 u24 u25 u26 u27 u28 u29 u30 u31 u32 u33 u34 u35 u36 u37 u38 u39 u40 u41 u42 u43 u44 u45 u46 u47 u48 u49 u50 u51 u52 u53 u54 u55 u56 u57 u58 u59 u60 u61 u62 u63 u64 u65 u66 u67 u68 u69 u70 u71 u72 u73 u74 u75 u76 u77 u78 u79 u80 u81 u82 u83 u84 u85 u86 u87 u88 u89 u90 u91 u92 u93 u94 u95 u96 u97 u98 u99 u100 u101 u102 u103 u104 u105 u106 u107 u108 u109 u110 u111 u112 u113 u114 u115 u116 u117 u118 u119 u120 u121 u122 u123 u124 u125 u126 u127 u128 u129 u130 u131 u132 u133 u134 u135 u136 u137 u138 u139 u140 u141 u142 u143 u144 u145 u146 u147 u148 u149 u150 u151 u152 u153 u154 u155 u156 u157 u158 u159 u160 u161 u162 u163 u164 u165 u166 u167 u168 u169 u170 u171 u172 u173 u174 u175 u176 u177 u178 u179 u180 hF
  obtain rfl : u0 = .slice la n lc := hF.at_ 0 _ (by simp)
  obtain rfl : u1 = .slice oa m oc := hF.at_ 1 _ (by simp)
  obtain rfl : u5 = .pointer (some ⟨BB, 0, none⟩) := hF.at_ 5 _ (by simp)
  obtain rfl : u7 = .pointer (some ⟨T1, 0, none⟩) := hF.at_ 7 _ (by simp)
  obtain rfl : u8 = .pointer (some ⟨T2, 0, none⟩) := hF.at_ 8 _ (by simp)
  obtain rfl : u9 = .int .i64 (n : Int) := hF.at_ 9 _ (by simp)
  clear hF
  conv => arg 2; whnf
  go_wp2
  exact ⟨rfl, rfl, rfl, rfl, by simp⟩
end Tree
end Go.Proofs.Ytndghakagogmcaa
