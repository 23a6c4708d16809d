/-
  AnyD: TreeAny: the loop that takes all out, the loop that puts in again
-/
import Derived.Test.YtndghakagogmcaaAnyC
namespace Go.Proofs.Ytndghakagogmcaa
open Go.RowKit Go.Shelf
set_option linter.unusedVariables false
set_option linter.unusedSimpArgs false
attribute [local go_sem] Oper.semAt_some
namespace Tree
open Mem BT
set_option maxHeartbeats 4000000 in
set_option maxRecDepth 100000 in
theorem any2_go (w0 W : World) (BB : Nat) (b : Bx) (T1 T2 : Nat) (L1 L2 : List (Nat × Bx)) (la oa : Option Addr) (lc oc : Nat) (l : List (Nat × Bx)) (os : List Int) (hA : AnySt w0 W BB b T1 T2 L1 L2) (hll : (l.length : Int) ≤ 300) (hol : (os.length : Int) ≤ 300) (i : Nat) (hi : (i : Int) < l.length) (lb off : Nat) (p : Nat × Bx) (hla : la = some ⟨lb, off, none⟩) (hlb : lb < w0.heap.size) (hp : El32 p) (hc : ∀ j u, (pairCells p)[j]? = some u → w0.cell? ⟨lb, off + i * 5 + j, none⟩ = some u) (X : Nat → Act → World → Prop) (R : Act → World → Prop) (a : Act) (hF : Fr a 181 [(0, .slice la l.length lc), (1, .slice oa os.length oc), (5, .pointer (some ⟨BB, 0, none⟩)), (7, .pointer (some ⟨T1, 0, none⟩)), (8, .pointer (some ⟨T2, 0, none⟩)), (12, .int .i64 (i : Int))]) :
    any2.wp Try.prog (Outs (fun a' W' => Fr a' 181 [(0, .slice la l.length lc), (1, .slice oa os.length oc), (5, .pointer (some ⟨BB, 0, none⟩)), (7, .pointer (some ⟨T1, 0, none⟩)), (8, .pointer (some ⟨T2, 0, none⟩)), (12, .int .i64 ((i + 1 : Nat) : Int))] ∧ AnySt w0 W' BB b T1 T2 L1 (del1 L2 p.1)) X R) a W := by
  subst hla
  revert hF
  refine fun hF => frames181 (P := fun a => Fr a 181 [(0, .slice (some ⟨lb, off, none⟩) l.length lc), (1, .slice oa os.length oc), (5, .pointer (some ⟨BB, 0, none⟩)), (7, .pointer (some ⟨T1, 0, none⟩)), (8, .pointer (some ⟨T2, 0, none⟩)), (12, .int .i64 (i : Int))] → any2.wp Try.prog (Outs (fun a' W' => Fr a' 181 [(0, .slice (some ⟨lb, off, none⟩) l.length lc), (1, .slice oa os.length oc), (5, .pointer (some ⟨BB, 0, none⟩)), (7, .pointer (some ⟨T1, 0, none⟩)), (8, .pointer (some ⟨T2, 0, none⟩)), (12, .int .i64 ((i + 1 : Nat) : Int))] ∧ AnySt w0 W' BB b T1 T2 L1 (del1 L2 p.1)) X R) a W) ?_ a hF.1 hF.2.1 hF
  intro u0 u1 u2 u3 u4 u5 u6 u7 u8 u9 u10 u11 u12 u13 u14 u15 u16 u17 u18 u19 u20 u21 u22 u23 u24 u25 u26 u27 u28 u29 u30 u31 u32 u33 u34 u35 u36 u37 u38 u39 u40 u41 u42 u43 u44 u45 u46 u47 u48 u49 u50 u51 u52 u53 u54 u55 u56 u57 u58 u59 u60 u61 u62 u63 u64 u65 u66 u67 u68 u69 u70 u71 u72 u73 u74 u75 u76 u77 u78 u79 u80 u81 u82 u83 u84 u85 u86 u87 u88 u89 u90 u91 u92 u93 u94 u95 u96 u97 u98 u99 u100 u101 u102 u103 u104 u105 u106 u107 u108 u109 u110 u111 u112 u113 u114 u115 u116 u117 u118 u119 u120 u121 u122 u123 u124 u125 u126 u127 u128 u129 u130 u131 u132 u133 u134 u135 u136 u137 u138 u139 u140 u141 u142 u143 u144 u145 u146 u147 u148 u149 u150 u151 u152 u153 u154 u155 u156 u157 u158 u159 u160 u161 u162 u163 u164 u165 u166 u167 u168 u169 u170 u171 u172 u173 u174 u175 u176 u177 u178 u179 u180 hF
  obtain rfl : u0 = .slice (some ⟨lb, off, none⟩) l.length lc := hF.at_ 0 _ (by simp)
  obtain rfl : u1 = .slice oa os.length oc := hF.at_ 1 _ (by simp)
  obtain rfl : u5 = .pointer (some ⟨BB, 0, none⟩) := hF.at_ 5 _ (by simp)
  obtain rfl : u7 = .pointer (some ⟨T1, 0, none⟩) := hF.at_ 7 _ (by simp)
  obtain rfl : u8 = .pointer (some ⟨T2, 0, none⟩) := hF.at_ 8 _ (by simp)
  obtain rfl : u12 = .int .i64 (i : Int) := hF.at_ 12 _ (by simp)
  clear hF
  obtain ⟨id, bx⟩ := p
  have hz : (0 : Int) ≤ (i : Int) := by omega
  have hr := Rows5.at_ hA.2.1 hlb hc
  have hr0 := hr 0 _ rfl
  have hr1 := hr 1 _ rfl
  have hr2 := hr 2 _ rfl
  have hr3 := hr 3 _ rfl
  have hr4 := hr 4 _ rfl
  simp only [Nat.add_zero] at hr0
  obtain ⟨S2, hT, hdid⟩ := hA.two
  have HP := Lib.hid (del_t T2 S2 L2 id W hT hp.1)
  have HD := Lib.hid hdid
  clear hA hT hdid hr hc hr1 hr2 hr3 hr4
  conv => arg 2; whnf
  go_wp2_with (go_at_call 24; (with_reducible refine HP.out.mono ?_); intro e w2 hd; obtain ⟨rfl, hA2⟩ := HD.out _ e w2 hd; clear hd; have HA2 := Lib.hid hA2; clear hA2)
  exact ⟨⟨rfl, rfl, by simp⟩, HA2.out⟩
set_option maxRecDepth 100000 in
theorem any2_end (W : World) (BB T1 T2 : Nat) (la oa : Option Addr) (lc oc n m : Nat) (N : Act → World → Prop) (R : Act → World → Prop) (a : Act) (hF : Fr a 181 [(0, .slice la n lc), (1, .slice oa m oc), (5, .pointer (some ⟨BB, 0, none⟩)), (7, .pointer (some ⟨T1, 0, none⟩)), (8, .pointer (some ⟨T2, 0, none⟩)), (12, .int .i64 (n : Int))]) :
    any2.wp Try.prog (Outs N (fun x a' W' => x = 4 ∧ W' = W ∧ Fr a' 181 [(0, .slice la n lc), (1, .slice oa m oc), (5, .pointer (some ⟨BB, 0, none⟩)), (7, .pointer (some ⟨T1, 0, none⟩)), (8, .pointer (some ⟨T2, 0, none⟩))]) R) a W := by
  revert hF
  refine fun hF => frames181 (P := fun a => Fr a 181 [(0, .slice la n lc), (1, .slice oa m oc), (5, .pointer (some ⟨BB, 0, none⟩)), (7, .pointer (some ⟨T1, 0, none⟩)), (8, .pointer (some ⟨T2, 0, none⟩)), (12, .int .i64 (n : Int))] → any2.wp Try.prog (Outs N (fun x a' W' => x = 4 ∧ W' = W ∧ Fr a' 181 [(0, .slice la n lc), (1, .slice oa m oc), (5, .pointer (some ⟨BB, 0, none⟩)), (7, .pointer (some ⟨T1, 0, none⟩)), (8, .pointer (some ⟨T2, 0, none⟩))]) R) a W) ?_ a hF.1 hF.2.1 hF
  intro u0 u1 u2 u3 u4 u5 u6 u7 u8 u9 u10 u11 u12 u13 u14 u15 u16 u17 u18 u19 u20 u21 u22 u23 u24 u25 u26 u27 u28 u29 u30 u31 u32 u33 u34 u35 u36 u37 u38 u39 u40 u41 u42 u43 u44 u45 u46 u47 u48 u49 u50 u51 u52 u53 u54 u55 u56 u57 u58 u59 u60 u61 u62 u63 u64 u65 u66 u67 u68 u69 u70 u71 u72 u73 u74 u75 u76 u77 u78 u79 u80 u81 u82 u83 u84 u85 u86 u87 u88 u89 u90 u91 u92 u93 u94 u95 u96 u97 u98 u99 u100 u101 u102 u103 u104 u105 u106 u107 u108 u109 u110 u111 u112 u113 u114 u115 u116 u117 u118 u119 u120 u121 u122 u123 u124 u125 u126 u127 u128 u129 u130 u131 u132 u133 u134 u135 u136 u137 u138 u139 u140 u141 u142 u143 u144 u145 u146 u147 u148 u149 u150 u151 u152 u153 u154 u155 u156 u157 u158 u159 u160 u161 u162 u163 u164 u165 u166 u167 u168 u169 u170 u171 u172 u173 u174 u175 u176 u177 u178 u179 u180 hF
  obtain rfl : u0 = .slice la n lc := hF.at_ 0 _ (by simp)
  obtain rfl : u1 = .slice oa m oc := hF.at_ 1 _ (by simp)
  obtain rfl : u5 = .pointer (some ⟨BB, 0, none⟩) := hF.at_ 5 _ (by simp)
  obtain rfl : u7 = .pointer (some ⟨T1, 0, none⟩) := hF.at_ 7 _ (by simp)
  obtain rfl : u8 = .pointer (some ⟨T2, 0, none⟩) := hF.at_ 8 _ (by simp)
  obtain rfl : u12 = .int .i64 (n : Int) := hF.at_ 12 _ (by simp)
  clear hF
  conv => arg 2; whnf
  go_wp2
  exact ⟨rfl, rfl, rfl, rfl, by simp⟩
set_option maxHeartbeats 4000000 in
set_option maxRecDepth 100000 in
theorem any3_go (w0 W : World) (BB : Nat) (b : Bx) (T1 T2 : Nat) (L1 L2 : List (Nat × Bx)) (la oa : Option Addr) (lc oc : Nat) (l : List (Nat × Bx)) (os : List Int) (hA : AnySt w0 W BB b T1 T2 L1 L2) (hll : (l.length : Int) ≤ 300) (hol : (os.length : Int) ≤ 300) (i : Nat) (hi : (i : Int) < l.length) (lb off : Nat) (p : Nat × Bx) (hla : la = some ⟨lb, off, none⟩) (hlb : lb < w0.heap.size) (hp : El32 p) (hc : ∀ j u, (pairCells p)[j]? = some u → w0.cell? ⟨lb, off + i * 5 + j, none⟩ = some u) (hlook : hasL L1 p.1 = true → El32 (p.1, lookL L1 p.1)) (X : Nat → Act → World → Prop) (R : Act → World → Prop) (a : Act) (hF : Fr a 181 [(0, .slice la l.length lc), (1, .slice oa os.length oc), (5, .pointer (some ⟨BB, 0, none⟩)), (7, .pointer (some ⟨T1, 0, none⟩)), (8, .pointer (some ⟨T2, 0, none⟩)), (13, .int .i64 (i : Int))]) :
    any3.wp Try.prog (Outs (fun a' W' => Fr a' 181 [(0, .slice la l.length lc), (1, .slice oa os.length oc), (5, .pointer (some ⟨BB, 0, none⟩)), (7, .pointer (some ⟨T1, 0, none⟩)), (8, .pointer (some ⟨T2, 0, none⟩)), (13, .int .i64 ((i : Int) - 1))] ∧ AnySt w0 W' BB b T1 T2 L1 (if hasL L1 p.1 then put1 L2 (p.1, lookL L1 p.1) else L2)) X R) a W := by
  subst hla
  revert hF
  refine fun hF => frames181 (P := fun a => Fr a 181 [(0, .slice (some ⟨lb, off, none⟩) l.length lc), (1, .slice oa os.length oc), (5, .pointer (some ⟨BB, 0, none⟩)), (7, .pointer (some ⟨T1, 0, none⟩)), (8, .pointer (some ⟨T2, 0, none⟩)), (13, .int .i64 (i : Int))] → any3.wp Try.prog (Outs (fun a' W' => Fr a' 181 [(0, .slice (some ⟨lb, off, none⟩) l.length lc), (1, .slice oa os.length oc), (5, .pointer (some ⟨BB, 0, none⟩)), (7, .pointer (some ⟨T1, 0, none⟩)), (8, .pointer (some ⟨T2, 0, none⟩)), (13, .int .i64 ((i : Int) - 1))] ∧ AnySt w0 W' BB b T1 T2 L1 (if hasL L1 p.1 then put1 L2 (p.1, lookL L1 p.1) else L2)) X R) a W) ?_ a hF.1 hF.2.1 hF
  intro u0 u1 u2 u3 u4 u5 u6 u7 u8 u9 u10 u11 u12 u13 u14 u15 u16 u17 u18 u19 u20 u21 u22 u23 u24 u25 u26 u27 u28 u29 u30 u31 u32 u33 u34 u35 u36 u37 u38 u39 u40 u41 u42 u43 u44 u45 u46 u47 u48 u49 u50 u51 u52 u53 u54 u55 u56 u57 u58 u59 u60 u61 u62 u63 u64 u65 u66 u67 u68 u69 u70 u71 u72 u73 u74 u75 u76 u77 u78 u79 u80 u81 u82 u83 u84 u85 u86 u87 u88 u89 u90 u91 u92 u93 u94 u95 u96 u97 u98 u99 u100 u101 u102 u103 u104 u105 u106 u107 u108 u109 u110 u111 u112 u113 u114 u115 u116 u117 u118 u119 u120 u121 u122 u123 u124 u125 u126 u127 u128 u129 u130 u131 u132 u133 u134 u135 u136 u137 u138 u139 u140 u141 u142 u143 u144 u145 u146 u147 u148 u149 u150 u151 u152 u153 u154 u155 u156 u157 u158 u159 u160 u161 u162 u163 u164 u165 u166 u167 u168 u169 u170 u171 u172 u173 u174 u175 u176 u177 u178 u179 u180 hF
  obtain rfl : u0 = .slice (some ⟨lb, off, none⟩) l.length lc := hF.at_ 0 _ (by simp)
  obtain rfl : u1 = .slice oa os.length oc := hF.at_ 1 _ (by simp)
  obtain rfl : u5 = .pointer (some ⟨BB, 0, none⟩) := hF.at_ 5 _ (by simp)
  obtain rfl : u7 = .pointer (some ⟨T1, 0, none⟩) := hF.at_ 7 _ (by simp)
  obtain rfl : u8 = .pointer (some ⟨T2, 0, none⟩) := hF.at_ 8 _ (by simp)
  obtain rfl : u13 = .int .i64 (i : Int) := hF.at_ 13 _ (by simp)
  clear hF
  obtain ⟨id, bx⟩ := p
  have hz : (0 : Int) ≤ (i : Int) := by omega
  have hr := Rows5.at_ hA.2.1 hlb hc
  have hr0 := hr 0 _ rfl
  have hr1 := hr 1 _ rfl
  have hr2 := hr 2 _ rfl
  have hr3 := hr 3 _ rfl
  have hr4 := hr 4 _ rfl
  simp only [Nat.add_zero] at hr0
  obtain ⟨S1, hT, _⟩ := hA.one
  have HB := Lib.hid (box_t T1 S1 L1 id W hT hp.1)
  have HA := Lib.hid hA
  have HC := Lib.hid hc
  dsimp only at hlook ⊢
  have hb := hT
  clear hA hT hr hc hr1 hr2 hr3 hr4 hb
  conv => arg 2; whnf
  cases hh : hasL L1 id with
  | false =>
    unfold boxR2 at HB
    rw [hh] at HB
    generalize lookL L1 id = lb2 at *
    simp only [Bx.val] at HB
    go_wp2_with (go_at_call 31; (with_reducible refine HB.out.mono ?_); rintro e w1 ⟨rfl, hk⟩; have HA1 := Lib.hid (HA.out.same hk); clear hk)
    exact ⟨⟨rfl, rfl, by simp⟩, by simpa using HA1.out.same ((Keeps.refl _ w1).alloc _)⟩
  | true =>
    have hel := hlook hh
    unfold boxR2 at HB
    rw [hh] at HB
    generalize lookL L1 id = lb2 at *
    simp only [Bx.val] at HB
    go_wp2_with (go_at_call 31; (with_reducible refine HB.out.mono ?_); rintro e w1 ⟨rfl, hk⟩; have hA1 := HA.out.same hk; clear hk; have hr0 := Rows5.at_ hA1.2.1 hlb HC.out 0 _ rfl; simp only [Nat.add_zero] at hr0; have HA1 := Lib.hid hA1; clear hA1)
    have kz := ((Keeps.refl (fun _ => False) w1).alloc (.cells #[.int .i32 lb2.x0, .int .i32 lb2.y0, .int .i32 lb2.x1, .int .i32 lb2.y1] 47)).drew
    have hA2 := HA1.out.same kz
    obtain ⟨S2, hT2, hlt2, hdid2⟩ := HA1.out.two2 kz
    have HP2 := Lib.hid (put_t T2 S2 L2 id lb2 _ hT2 hel)
    have HD2 := Lib.hid hdid2
    have q0 := Rows5.at_ hA2.2.1 hlb HC.out 0 _ rfl
    simp only [Nat.add_zero] at q0
    have hV := (Blk.new w1 47 [.int .i32 lb2.x0, .int .i32 lb2.y0, .int .i32 lb2.x1, .int .i32 lb2.y1]).drew
    have qv := hV.cell
    have HNI := Lib.hid (show ¬ S2 w1.heap.size from fun hs => Nat.lt_irrefl _ (hlt2 _ hs))
    have HV := Lib.hid hV
    clear hA2 hT2 hdid2 hlt2 hV kz
    go_region_held3 (fun W' => W'.cell? ⟨lb, off + i * 5, none⟩ = some (.int .u32 (id : Int)) ∧ ∀ j : Nat, W'.cell? ⟨w1.heap.size, j, none⟩ = ([.int .i32 lb2.x0, .int .i32 lb2.y0, .int .i32 lb2.x1, .int .i32 lb2.y1] : List Value)[j]?) (first | with_reducible assumption | exact ⟨q0, qv⟩)
      (first | (go_at_call 20; (with_reducible refine HP2.out.mono ?_); intro e w2 hd; obtain ⟨rfl, hkS, hA2⟩ := HD2.out _ e w2 hd; clear hd; have hS2 := And.intro (Rows5.at_ hA2.2.1 hlb HC.out 0 _ rfl) (HV.out.keeps hkS HNI.out).cell; simp only [Nat.add_zero] at hS2; have HA2 := Lib.hid hA2; clear hA2 hkS))
    go_wp2
    exact ⟨⟨rfl, rfl, by simp⟩, by simpa [put1] using HA2.out⟩
set_option maxRecDepth 100000 in
theorem any3_end (W : World) (BB T1 T2 : Nat) (la oa : Option Addr) (lc oc n m : Nat) (N : Act → World → Prop) (R : Act → World → Prop) (a : Act) (hF : Fr a 181 [(0, .slice la n lc), (1, .slice oa m oc), (5, .pointer (some ⟨BB, 0, none⟩)), (7, .pointer (some ⟨T1, 0, none⟩)), (8, .pointer (some ⟨T2, 0, none⟩)), (13, .int .i64 (-1))]) :
    any3.wp Try.prog (Outs N (fun x a' W' => x = 6 ∧ W' = W ∧ Fr a' 181 [(0, .slice la n lc), (1, .slice oa m oc), (5, .pointer (some ⟨BB, 0, none⟩)), (7, .pointer (some ⟨T1, 0, none⟩)), (8, .pointer (some ⟨T2, 0, none⟩))]) R) a W := by
  revert hF
  refine fun hF => frames181 (P := fun a => Fr a 181 [(0, .slice la n lc), (1, .slice oa m oc), (5, .pointer (some ⟨BB, 0, none⟩)), (7, .pointer (some ⟨T1, 0, none⟩)), (8, .pointer (some ⟨T2, 0, none⟩)), (13, .int .i64 (-1))] → any3.wp Try.prog (Outs N (fun x a' W' => x = 6 ∧ W' = W ∧ Fr a' 181 [(0, .slice la n lc), (1, .slice oa m oc), (5, .pointer (some ⟨BB, 0, none⟩)), (7, .pointer (some ⟨T1, 0, none⟩)), (8, .pointer (some ⟨T2, 0, none⟩))]) R) a W) ?_ a hF.1 hF.2.1 hF
  intro u0 u1 u2 u3 u4 u5 u6 u7 u8 u9 u10 u11 u12 u13 u14 u15 u16 u17 u18 u19 u20 u21 u22 u23 u24 u25 u26 u27 u28 u29 u30 u31 u32 u33 u34 u35 u36 u37 u38 u39 u40 u41 u42 u43 u44 u45 u46 u47 u48 u49 u50 u51 u52 u53 u54 u55 u56 u57 u58 u59 u60 u61 u62 u63 u64 u65 u66 u67 u68 u69 u70 u71 u72 u73 u74 u75 u76 u77 u78 u79 u80 u81 u82 u83 u84 u85 u86 u87 u88 u89 u90 u91 u92 u93 u94 u95 u96 u97 u98 u99 u100 u101 u102 u103 u104 u105 u106 u107 u108 u109 u110 u111 u112 u113 u114 u115 u116 u117 u118 u119 u120 u121 u122 u123 u124 u125 u126 u127 u128 u129 u130 u131 u132 u133 u134 u135 u136 u137 u138 u139 u140 u141 u142 u143 u144 u145 u146 u147 u148 u149 u150 u151 u152 u153 u154 u155 u156 u157 u158 u159 u160 u161 u162 u163 u164 u165 u166 u167 u168 u169 u170 u171 u172 u173 u174 u175 u176 u177 u178 u179 u180 hF
  obtain rfl : u0 = .slice la n lc := hF.at_ 0 _ (by simp)
  obtain rfl : u1 = .slice oa m oc := hF.at_ 1 _ (by simp)
  obtain rfl : u5 = .pointer (some ⟨BB, 0, none⟩) := hF.at_ 5 _ (by simp)
  obtain rfl : u7 = .pointer (some ⟨T1, 0, none⟩) := hF.at_ 7 _ (by simp)
  obtain rfl : u8 = .pointer (some ⟨T2, 0, none⟩) := hF.at_ 8 _ (by simp)
  obtain rfl : u13 = .int .i64 (-1) := hF.at_ 13 _ (by simp)
  clear hF
  conv => arg 2; whnf
  go_wp2
  exact ⟨rfl, rfl, rfl, rfl, by simp⟩
end Tree
end Go.Proofs.Ytndghakagogmcaa
