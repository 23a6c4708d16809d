/-
  AnyC: TreeAny: the loop that puts into the second and takes out
-/
import Derived.Test.YtndghakagogmcaaAnyB
namespace Go.Proofs.Ytndghakagogmcaa
open Go.RowKit Go.Shelf
set_option linter.unusedVariables false
set_option linter.unusedSimpArgs false
attribute [local go_sem] Oper.semAt_some
namespace Tree
open Mem BT
set_option maxHeartbeats 4000000 in
set_option maxRecDepth 100000 in
theorem any1_go (w0 W : World) (BB : Nat) (b : Bx) (T1 T2 : Nat) (L1 L2 : List (Nat × Bx)) (la oa : Option Addr) (lc oc : Nat) (l : List (Nat × Bx)) (os : List Int) (hA : AnySt w0 W BB b T1 T2 L1 L2) (hll : (l.length : Int) ≤ 300) (hol : (os.length : Int) ≤ 300) (k : Nat) (hk : (k : Int) < os.length) (ob ooff : Nat) (z : Int) (hoa : oa = some ⟨ob, ooff, none⟩) (hob : ob < w0.heap.size) (hz : -9223372036854775808 ≤ z ∧ z ≤ 9223372036854775807) (hoc : w0.cell? ⟨ob, ooff + k, none⟩ = some (.int .i64 z))
    (i : Nat) (hi : (i : Int) < l.length) (hij : z.tmod (l.length : Int) % (l.length : Int) = (i : Int)) (lb off : Nat) (p : Nat × Bx) (hla : la = some ⟨lb, off, none⟩) (hlb : lb < w0.heap.size) (hp : El32 p) (hc : ∀ j u, (pairCells p)[j]? = some u → w0.cell? ⟨lb, off + i * 5 + j, none⟩ = some u) (X : Nat → Act → World → Prop) (R : Act → World → Prop) (a : Act) (hF : Fr a 181 [(0, .slice la l.length lc), (1, .slice oa os.length oc), (5, .pointer (some ⟨BB, 0, none⟩)), (7, .pointer (some ⟨T1, 0, none⟩)), (8, .pointer (some ⟨T2, 0, none⟩)), (10, .int .i64 (k : Int))]) :
    any1.wp Try.prog (Outs (fun a' W' => Fr a' 181 [(0, .slice la l.length lc), (1, .slice oa os.length oc), (5, .pointer (some ⟨BB, 0, none⟩)), (7, .pointer (some ⟨T1, 0, none⟩)), (8, .pointer (some ⟨T2, 0, none⟩)), (10, .int .i64 ((k + 1 : Nat) : Int))] ∧ ∃ L2', (L2' = put1 L2 p ∨ L2' = del1 (put1 L2 p) p.1) ∧ AnySt w0 W' BB b T1 T2 L1 L2') X R) a W := by
  subst hla hoa
  revert hF
  refine fun hF => frames181 (P := fun a => Fr a 181 [(0, .slice (some ⟨lb, off, none⟩) l.length lc), (1, .slice (some ⟨ob, ooff, none⟩) os.length oc), (5, .pointer (some ⟨BB, 0, none⟩)), (7, .pointer (some ⟨T1, 0, none⟩)), (8, .pointer (some ⟨T2, 0, none⟩)), (10, .int .i64 (k : Int))] → any1.wp Try.prog (Outs (fun a' W' => Fr a' 181 [(0, .slice (some ⟨lb, off, none⟩) l.length lc), (1, .slice (some ⟨ob, ooff, none⟩) os.length oc), (5, .pointer (some ⟨BB, 0, none⟩)), (7, .pointer (some ⟨T1, 0, none⟩)), (8, .pointer (some ⟨T2, 0, none⟩)), (10, .int .i64 ((k + 1 : Nat) : Int))] ∧ ∃ L2', (L2' = put1 L2 p ∨ L2' = del1 (put1 L2 p) p.1) ∧ AnySt w0 W' BB b T1 T2 L1 L2') X R) a W) ?_ a hF.1 hF.2.1 hF
  intro u0 u1 u2 u3 u4 u5 u6 u7 u8 u9 u10 u11 u12 u13 u14 u15 u16 u17 u18 u19 u20 u21 u22 u23 u24 u25 u26 u27 u28 u29 u30 u31 u32 u33 u34 u35 u36 u37 u38 u39 u40 u41 u42 u43 u44 u45 u46 u47 u48 u49 u50 u51 u52 u53 u54 u55 u56 u57 u58 u59 u60 u61 u62 u63 u64 u65 u66 u67 u68 u69 u70 u71 u72 u73 u74 u75 u76 u77 u78 u79 u80 u81 u82 u83 u84 u85 u86 u87 u88 u89 u90 u91 u92 u93 u94 u95 u96 u97 u98 u99 u100 u101 u102 u103 u104 u105 u106 u107 u108 u109 u110 u111 u112 u113 u114 u115 u116 u117 u118 u119 u120 u121 u122 u123 u124 u125 u126 u127 u128 u129 u130 u131 u132 u133 u134 u135 u136 u137 u138 u139 u140 u141 u142 u143 u144 u145 u146 u147 u148 u149 u150 u151 u152 u153 u154 u155 u156 u157 u158 u159 u160 u161 u162 u163 u164 u165 u166 u167 u168 u169 u170 u171 u172 u173 u174 u175 u176 u177 u178 u179 u180 hF
  obtain rfl : u0 = .slice (some ⟨lb, off, none⟩) l.length lc := hF.at_ 0 _ (by simp)
  obtain rfl : u1 = .slice (some ⟨ob, ooff, none⟩) os.length oc := hF.at_ 1 _ (by simp)
  obtain rfl : u5 = .pointer (some ⟨BB, 0, none⟩) := hF.at_ 5 _ (by simp)
  obtain rfl : u7 = .pointer (some ⟨T1, 0, none⟩) := hF.at_ 7 _ (by simp)
  obtain rfl : u8 = .pointer (some ⟨T2, 0, none⟩) := hF.at_ 8 _ (by simp)
  obtain rfl : u10 = .int .i64 (k : Int) := hF.at_ 10 _ (by simp)
  clear hF
  obtain ⟨id, bx⟩ := p
  have hz0 : (0 : Int) ≤ (i : Int) := by omega
  have hk0 : (0 : Int) ≤ (k : Int) := by omega
  have hn0 : ¬ (l.length : Int) = 0 := by omega
  have hm1 : -(l.length : Int) < z.tmod l.length ∧ z.tmod l.length < l.length := by
    have h1 := Int.tmod_lt_of_pos z (show (0 : Int) < l.length by omega)
    have h2 := Int.lt_tmod_of_pos z (show (0 : Int) < l.length by omega)
    omega
  have hr := Rows5.at_ hA.2.1 hlb hc
  have hr0 := hr 0 _ rfl
  have hr1 := hr 1 _ rfl
  have hr2 := hr 2 _ rfl
  have hr3 := hr 3 _ rfl
  have hr4 := hr 4 _ rfl
  simp only [Nat.add_zero] at hr0
  have ho := (Keeps.of_below0 hA.2.1).cell (p := ⟨ob, ooff + k, none⟩) hoc (fun h => h)
  obtain ⟨S2, hT, hlt, hdid⟩ := hA.two2 ((Keeps.refl _ W).alloc (.cells #[.int .u32 (id : Int), .int .i32 bx.x0, .int .i32 bx.y0, .int .i32 bx.x1, .int .i32 bx.y1] 57))
  have HP := Lib.hid (put_t T2 S2 L2 id bx _ hT hp)
  have HD := Lib.hid hdid
  have HL := Lib.hid hlt
  have HV := Lib.hid (Blk.new W 57 [.int .u32 (id : Int), .int .i32 bx.x0, .int .i32 bx.y0, .int .i32 bx.x1, .int .i32 bx.y1])
  have HX1 := Lib.hid (And.intro hp hc)
  clear hA hT hdid hr hc hoc hp hlt
  conv => arg 2; whnf
  go_wp2_with (first
    | (go_at_call 20; (with_reducible refine HP.out.mono ?_); intro e w1 hd; obtain ⟨rfl, hkS, hA1⟩ := HD.out _ e w1 hd; clear hd; have hV1 := HV.out.keeps hkS (fun h => Nat.lt_irrefl _ (HL.out _ h)); have cV := hV1.cell 0; simp only [List.getElem?_cons_zero] at cV; obtain ⟨S3, hT3, hdid3⟩ := hA1.two; have HP2 := Lib.hid (del_t T2 S3 (put1 L2 (id, bx)) id w1 hT3 HX1.out.1.1); have HD2 := Lib.hid hdid3; have HA1 := Lib.hid hA1; clear hA1 hkS hV1 hT3 hdid3)
    | (go_at_call 24; (with_reducible refine HP2.out.mono ?_); intro e w2 hd; obtain ⟨rfl, hA2⟩ := HD2.out _ e w2 hd; clear hd; have HA2 := Lib.hid hA2; clear hA2))
  · exact ⟨⟨rfl, rfl, by simp⟩, .inr HA2.out⟩
  · exact ⟨⟨rfl, rfl, by simp⟩, .inl HA1.out⟩
set_option maxRecDepth 100000 in
theorem any1_end (W : World) (BB T1 T2 : Nat) (la oa : Option Addr) (lc oc n m : Nat) (N : Act → World → Prop) (R : Act → World → Prop) (a : Act) (hF : Fr a 181 [(0, .slice la n lc), (1, .slice oa m oc), (5, .pointer (some ⟨BB, 0, none⟩)), (7, .pointer (some ⟨T1, 0, none⟩)), (8, .pointer (some ⟨T2, 0, none⟩)), (10, .int .i64 (m : Int))]) :
    any1.wp Try.prog (Outs N (fun x a' W' => x = 2 ∧ W' = W ∧ Fr a' 181 [(0, .slice la n lc), (1, .slice oa m oc), (5, .pointer (some ⟨BB, 0, none⟩)), (7, .pointer (some ⟨T1, 0, none⟩)), (8, .pointer (some ⟨T2, 0, none⟩))]) R) a W := by
  revert hF
  refine fun hF => frames181 (P := fun a => Fr a 181 [(0, .slice la n lc), (1, .slice oa m oc), (5, .pointer (some ⟨BB, 0, none⟩)), (7, .pointer (some ⟨T1, 0, none⟩)), (8, .pointer (some ⟨T2, 0, none⟩)), (10, .int .i64 (m : Int))] → any1.wp Try.prog (Outs N (fun x a' W' => x = 2 ∧ W' = W ∧ Fr a' 181 [(0, .slice la n lc), (1, .slice oa m oc), (5, .pointer (some ⟨BB, 0, none⟩)), (7, .pointer (some ⟨T1, 0, none⟩)), (8, .pointer (some ⟨T2, 0, none⟩))]) R) a W) ?_ a hF.1 hF.2.1 hF
  intro u0 u1 u2 u3 u4 u5 u6 u7 u8 u9 u10 u11 u12 u13 u14 u15 u16 u17 u18 u19 u20 u21 u22 u23 u24 u25 u26 u27 u28 u29 u30 u31 u32 u33 u34 u35 u36 u37 u38 u39 u40 u41 u42 u43 u44 u45 u46 u47 u48 u49 u50 u51 u52 u53 u54 u55 u56 u57 u58 u59 u60 u61 u62 u63 u64 u65 u66 u67 u68 u69 u70 u71 u72 u73 u74 u75 u76 u77 u78 u79 u80 u81 u82 u83 u84 u85 u86 u87 u88 u89 u90 u91 u92 u93 u94 u95 u96 u97 u98 u99 u100 u101 u102 u103 u104 u105 u106 u107 u108 u109 u110 u111 u112 u113 u114 u115 u116 u117 u118 u119 u120 u121 u122 u123 u124 u125 u126 u127 u128 u129 u130 u131 u132 u133 u134 u135 u136 u137 u138 u139 u140 u141 u142 u143 u144 u145 u146 u147 u148 u149 u150 u151 u152 u153 u154 u155 u156 u157 u158 u159 u160 u161 u162 u163 u164 u165 u166 u167 u168 u169 u170 u171 u172 u173 u174 u175 u176 u177 u178 u179 u180 hF
  obtain rfl : u0 = .slice la n lc := hF.at_ 0 _ (by simp)
  obtain rfl : u1 = .slice oa m oc := hF.at_ 1 _ (by simp)
  obtain rfl : u5 = .pointer (some ⟨BB, 0, none⟩) := hF.at_ 5 _ (by simp)
  obtain rfl : u7 = .pointer (some ⟨T1, 0, none⟩) := hF.at_ 7 _ (by simp)
  obtain rfl : u8 = .pointer (some ⟨T2, 0, none⟩) := hF.at_ 8 _ (by simp)
  obtain rfl : u10 = .int .i64 (m : Int) := hF.at_ 10 _ (by simp)
  clear hF
  conv => arg 2; whnf
  go_wp2
  exact ⟨rfl, rfl, rfl, rfl, by simp⟩
set_option maxRecDepth 100000 in
theorem any1_nil (W : World) (BB T1 T2 : Nat) (la oa : Option Addr) (lc oc m k : Nat) (hk : (k : Int) < m) (N : Act → World → Prop) (R : Act → World → Prop) (a : Act) (hF : Fr a 181 [(0, .slice la 0 lc), (1, .slice oa m oc), (5, .pointer (some ⟨BB, 0, none⟩)), (7, .pointer (some ⟨T1, 0, none⟩)), (8, .pointer (some ⟨T2, 0, none⟩)), (10, .int .i64 (k : Int))]) :
    any1.wp Try.prog (Outs N (fun x a' W' => x = 2 ∧ W' = W ∧ Fr a' 181 [(0, .slice la 0 lc), (1, .slice oa m oc), (5, .pointer (some ⟨BB, 0, none⟩)), (7, .pointer (some ⟨T1, 0, none⟩)), (8, .pointer (some ⟨T2, 0, none⟩))]) R) a W := by
  revert hF
  refine fun hF => frames181 (P := fun a => Fr a 181 [(0, .slice la 0 lc), (1, .slice oa m oc), (5, .pointer (some ⟨BB, 0, none⟩)), (7, .pointer (some ⟨T1, 0, none⟩)), (8, .pointer (some ⟨T2, 0, none⟩)), (10, .int .i64 (k : Int))] → any1.wp Try.prog (Outs N (fun x a' W' => x = 2 ∧ W' = W ∧ Fr a' 181 [(0, .slice la 0 lc), (1, .slice oa m oc), (5, .pointer (some ⟨BB, 0, none⟩)), (7, .pointer (some ⟨T1, 0, none⟩)), (8, .pointer (some ⟨T2, 0, none⟩))]) R) a W) ?_ a hF.1 hF.2.1 hF
  intro u0 u1 u2 u3 u4 u5 u6 u7 u8 u9 u10 u11 u12 u13 u14 u15 u16 u17 u18 u19 u20 u21 u22 u23 u24 u25 u26 u27 u28 u29 u30 u31 u32 u33 u34 u35 u36 u37 u38 u39 u40 u41 u42 u43 u44 u45 u46 u47 u48 u49 u50 u51 u52 u53 u54 u55 u56 u57 u58 u59 u60 u61 u62 u63 u64 u65 u66 u67 u68 u69 u70 u71 u72 u73 u74 u75 u76 u77 u78 u79 u80 u81 u82 u83 u84 u85 u86 u87 u88 u89 u90 u91 u92 u93 u94 u95 u96 u97 u98 u99 u100 u101 u102 u103 u104 u105 u106 u107 u108 u109 u110 u111 u112 u113 u114 u115 u116 u117 u118 u119 u120 u121 u122 u123 u124 u125 u126 u127 u128 u129 u130 u131 u132 u133 u134 u135 u136 u137 u138 u139 u140 u141 u142 u143 u144 u145 u146 u147 u148 u149 u150 u151 u152 u153 u154 u155 u156 u157 u158 u159 u160 u161 u162 u163 u164 u165 u166 u167 u168 u169 u170 u171 u172 u173 u174 u175 u176 u177 u178 u179 u180 hF
  obtain rfl : u0 = .slice la 0 lc := hF.at_ 0 _ (by simp)
  obtain rfl : u1 = .slice oa m oc := hF.at_ 1 _ (by simp)
  obtain rfl : u5 = .pointer (some ⟨BB, 0, none⟩) := hF.at_ 5 _ (by simp)
  obtain rfl : u7 = .pointer (some ⟨T1, 0, none⟩) := hF.at_ 7 _ (by simp)
  obtain rfl : u8 = .pointer (some ⟨T2, 0, none⟩) := hF.at_ 8 _ (by simp)
  obtain rfl : u10 = .int .i64 (k : Int) := hF.at_ 10 _ (by simp)
  clear hF
  conv => arg 2; whnf
  go_wp2
  exact ⟨rfl, rfl, rfl, rfl, by simp⟩
theorem any1_stop (W : World) (BB T1 T2 : Nat) (la oa : Option Addr) (lc oc n m k : Nat) (h : k = m ∨ ((k : Int) < m ∧ n = 0)) (N : Act → World → Prop) (R : Act → World → Prop) (a : Act) (hF : Fr a 181 [(0, .slice la n lc), (1, .slice oa m oc), (5, .pointer (some ⟨BB, 0, none⟩)), (7, .pointer (some ⟨T1, 0, none⟩)), (8, .pointer (some ⟨T2, 0, none⟩)), (10, .int .i64 (k : Int))]) :
    any1.wp Try.prog (Outs N (fun x a' W' => x = 2 ∧ W' = W ∧ Fr a' 181 [(0, .slice la n lc), (1, .slice oa m oc), (5, .pointer (some ⟨BB, 0, none⟩)), (7, .pointer (some ⟨T1, 0, none⟩)), (8, .pointer (some ⟨T2, 0, none⟩))]) R) a W := by
  rcases h with rfl | ⟨h, rfl⟩
  · exact any1_end W BB T1 T2 la oa lc oc n k N R a hF
  · exact any1_nil W BB T1 T2 la oa lc oc m k h N R a hF
end Tree
end Go.Proofs.Ytndghakagogmcaa
