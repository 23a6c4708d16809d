/-
FiX2: FinderSame: the round that asks the index 2. (Printed by wip/gen_fix.py.)
-/
import Derived.Test.YtdbpfbokfmpgcaaGreatZbtFiWFiY
namespace Go.Proofs.YtdbpfbokfmpgcaaGreat
open Go.RowKit Go.Shelf
set_option linter.unusedVariables false
set_option linter.unusedSimpArgs false
set_option linter.ambiguousOpen false
attribute [local go_sem] Oper.semAt_some
namespace Fi
open Mem Gr Gs
open So (vals)
set_option maxHeartbeats 16000000 in
set_option maxRecDepth 100000 in
theorem ask_2 (w W : World) (BL BX : Nat) (v : Nat → Value) (F : Nat → Nat → Prop) (L : List (Nat × Bx)) (x : Stp) (hT : Tri w W BL v F L) (hX : Blk W BX 41 [.int .i64 x.do_, .int .u32 (x.id : Int), .int .i32 x.b.x0, .int .i32 x.b.y0, .int .i32 x.b.x1, .int .i32 x.b.y1, .int .i32 x.px, .int .i32 x.py, .int .i32 x.qx, .int .i32 x.qy, .int .i64 x.stop]) (A T C : List Nat) (hA : Ans L (coversP x.px x.py) A) (hB : Ans L (coversP x.qx x.qy) T) (hC : Ans L (tkC x.px x.py x.qx x.qy) C)
    (h0 : ¬ x.do_ = 0) (h1 : ¬ x.do_ = 1) (sv iv s1 s2 s3 : Value) (hs1 : Tree.U32s W s1 A) (hs2 : Tree.U32s W s2 T) (hs3 : Tree.U32s W s3 C) (X : Nat → Act → World → Prop) (R : Act → World → Prop) (a : Act) (hF : Fr a 189 [(2, sv), (7, .pointer (some ⟨BL, 0, none⟩)), (12, iv), (13, .pointer (some ⟨BX, 0, none⟩)), (14, s1), (15, s2), (16, s3), (17, .int .i64 2)]) : sameK.wp Tryz.prog (Outs (fun a' W' => ∃ r1 r2 r3, Fr a' 189 [(2, sv), (7, .pointer (some ⟨BL, 0, none⟩)), (12, iv), (13, .pointer (some ⟨BX, 0, none⟩)), (14, r1), (15, r2), (16, r3), (17, .int .i64 3)] ∧ Keeps (fun _ => False) W W' ∧ Tree.U32s W' r1 A ∧ Tree.U32s W' r2 T ∧ Tree.U32s W' r3 C) X R) a W := by
  revert hF
  refine fun hF => frames189 (P := fun a => Fr a 189 [(2, sv), (7, .pointer (some ⟨BL, 0, none⟩)), (12, iv), (13, .pointer (some ⟨BX, 0, none⟩)), (14, s1), (15, s2), (16, s3), (17, .int .i64 2)] → sameK.wp Tryz.prog (Outs (fun a' W' => ∃ r1 r2 r3, Fr a' 189 [(2, sv), (7, .pointer (some ⟨BL, 0, none⟩)), (12, iv), (13, .pointer (some ⟨BX, 0, none⟩)), (14, r1), (15, r2), (16, r3), (17, .int .i64 3)] ∧ Keeps (fun _ => False) W W' ∧ Tree.U32s W' r1 A ∧ Tree.U32s W' r2 T ∧ Tree.U32s W' r3 C) X R) a W) ?_ a hF.1 hF.2.1 hF
  intro u0 u1 u2 u3 u4 u5 u6 u7 u8 u9 u10 u11 u12 u13 u14 u15 u16 u17 u18 u19 u20 u21 u22 u23 u24 u25 u26 u27 u28 u29 u30 u31 u32 u33 u34 u35 u36 u37 u38 u39 u40 u41 u42 u43 u44 u45 u46 u47 u48 u49 u50 u51 u52 u53 u54 u55 u56 u57 u58 u59 u60 u61 u62 u63 u64 u65 u66 u67 u68 u69 u70 u71 u72 u73 u74 u75 u76 u77 u78 u79 u80 u81 u82 u83 u84 u85 u86 u87 u88 u89 u90 u91 u92 u93 u94 u95 u96 u97 u98 u99 u100 u101 u102 u103 u104 u105 u106 u107 u108 u109 u110 u111 u112 u113 u114 u115 u116 u117 u118 u119 u120 u121 u122 u123 u124 u125 u126 u127 u128 u129 u130 u131 u132 u133 u134 u135 u136 u137 u138 u139 u140 u141 u142 u143 u144 u145 u146 u147 u148 u149 u150 u151 u152 u153 u154 u155 u156 u157 u158 u159 u160 u161 u162 u163 u164 u165 u166 u167 u168 u169 u170 u171 u172 u173 u174 u175 u176 u177 u178 u179 u180 u181 u182 u183 u184 u185 u186 u187 u188 hF
  obtain rfl : u2 = sv := hF.at_ 2 _ (by simp)
  obtain rfl : u7 = .pointer (some ⟨BL, 0, none⟩) := hF.at_ 7 _ (by simp)
  obtain rfl : u12 = iv := hF.at_ 12 _ (by simp)
  obtain rfl : u13 = .pointer (some ⟨BX, 0, none⟩) := hF.at_ 13 _ (by simp)
  obtain rfl : u14 = s1 := hF.at_ 14 _ (by simp)
  obtain rfl : u15 = s2 := hF.at_ 15 _ (by simp)
  obtain rfl : u16 = s3 := hF.at_ 16 _ (by simp)
  obtain rfl : u17 = .int .i64 2 := hF.at_ 17 _ (by simp)
  clear hF
  have hL := hT.ok
  obtain ⟨t, B, fA, fC, fL, rL, hQ⟩ := (hT.fd 2 (by omega)).asks hL
  obtain ⟨t0, B0, fA0, fC0, fL0, rL0, hQ0⟩ := (hT.fd 0 (by omega)).asks hL
  have hb := hT.arr
  rw [hQ.val, hQ0.val] at hb
  have HSN := Lib.hid (show ∀ W', Keeps (fun _ => False) W W' → (∀ i : Nat, W'.cell? ⟨BL, i, none⟩ = ([.iface t0 (.pointer (some ⟨B0, 0, none⟩)), v 1, .iface t (.pointer (some ⟨B, 0, none⟩))] : List Value)[i]?) ∧ (∀ i : Nat, W'.cell? ⟨BX, i, none⟩ = ([.int .i64 x.do_, .int .u32 (x.id : Int), .int .i32 x.b.x0, .int .i32 x.b.y0, .int .i32 x.b.x1, .int .i32 x.b.y1, .int .i32 x.px, .int .i32 x.py, .int .i32 x.qx, .int .i32 x.qy, .int .i64 x.stop] : List Value)[i]?) from fun W' hk => ⟨(hb.keeps hk (fun h => h)).cell, (hX.keeps hk (fun h => h)).cell⟩)
  have hS00 := HSN.out _ (Keeps.refl _ _)
  have HA := Lib.hid (And.intro hQ.aA hQ.aC)
  have HM := Lib.hid (And.intro hQ.mA hQ.mC)
  have HAn := Lib.hid (And.intro hA (And.intro hB hC))
  have HL := Lib.hid hL
  have enA := hQ.enA
  have enC := hQ.enC
  have enL := hQ.enL
  have enL0 := hQ0.enL
  have HN := Lib.hid (And.intro hQ.mL (And.intro hQ.aL (And.intro hQ0.mL hQ0.aL)))
  have HS := Lib.hid (And.intro hs1 (And.intro hs2 hs3))
  have e0 : (x.do_ == 0) = false := by simpa using h0
  have e1 : (x.do_ == 1) = false := by simpa using h1
  clear hT hX hA hB hC h0 h1 hL hQ hb hQ0 hs1 hs2 hs3
  conv => arg 2; whnf
  go_wp2
  clear hS00 e0 e1
  rename_i Kx hKx
  refine wp_mono (Q := Exit.then Kx (fun _ _ _ => False)) ?_ (fun e a w h => by cases e <;> first | exact h | exact h.elim)
  refine wp_region_held_drew (S := fun W => (∀ i : Nat, W.cell? ⟨BL, i, none⟩ = ([.iface t0 (.pointer (some ⟨B0, 0, none⟩)), v 1, .iface t (.pointer (some ⟨B, 0, none⟩))] : List Value)[i]?) ∧ (∀ i : Nat, W.cell? ⟨BX, i, none⟩ = ([.int .i64 x.do_, .int .u32 (x.id : Int), .int .i32 x.b.x0, .int .i32 x.b.y0, .int .i32 x.b.x1, .int .i32 x.b.y1, .int .i32 x.px, .int .i32 x.py, .int .i32 x.qx, .int .i32 x.qy, .int .i64 x.stop] : List Value)[i]?)) (by kernel_rfl) (HSN.out _ (by (first | exact Keeps.refl _ _ | (repeat (first | exact Keeps.refl _ _ | refine Keeps.alloc ?_ _ | refine Keeps.drew ?_))))) (fun hSx => ?_)
  (refine tk 0 (v := ?_) rfl (by kernel_rfl) (by kernel_rfl) hSx ?_ ?_; rotate_left; (focus (rintro w hSw; (try dsimp only at hSw); go_simp; (try with_reducible rfl))); simp only [y0, y1, y2, y3, y4, y5, y6])
  (refine tk 1 (v := ?_) rfl (by kernel_rfl) (by kernel_rfl) hSx ?_ ?_; rotate_left; (focus (rintro w hSw; (try dsimp only at hSw); go_simp; (try with_reducible rfl))); simp only [y0, y1, y2, y3, y4, y5, y6])
  (refine tk 2 (v := ?_) rfl (by kernel_rfl) (by kernel_rfl) hSx ?_ ?_; rotate_left; (focus (rintro w hSw; (try dsimp only at hSw); go_simp; (try with_reducible rfl))); simp only [y0, y1, y2, y3, y4, y5, y6])
  (refine tk 3 (v := ?_) rfl (by kernel_rfl) (by kernel_rfl) hSx ?_ ?_; rotate_left; (focus (rintro w hSw; (try dsimp only at hSw); go_simp; (try with_reducible rfl))); simp only [y0, y1, y2, y3, y4, y5, y6])
  (refine tk 4 (v := ?_) rfl (by kernel_rfl) (by kernel_rfl) hSx ?_ ?_; rotate_left; (focus (rintro w hSw; (try dsimp only at hSw); go_simp; (try with_reducible rfl))); simp only [y0, y1, y2, y3, y4, y5, y6])
  refine anyH_one 5 (by kernel_rfl) rfl (by rfl) (fun K hK => ?_)
  have hm := HM.out.1
  go_simp
  (with_reducible refine (HA.out.1 _ (by (first | exact Keeps.refl _ _ | (repeat (first | exact Keeps.refl _ _ | refine Keeps.alloc ?_ _ | refine Keeps.drew ?_)))) _ _).mono ?_)
  rintro e w1 ⟨VB, V, rfl, k1, hv, ha⟩
  have HK1 := Lib.hid (show Keeps (fun _ => False) W w1 from Keeps.trans (by (first | exact Keeps.refl _ _ | (repeat (first | exact Keeps.refl _ _ | refine Keeps.alloc ?_ _ | refine Keeps.drew ?_)))) k1)
  have HV := Lib.hid (And.intro hv ha)
  clear hv ha hm
  clear k1
  have hS1 := HSN.out _ HK1.out
  refine hK _ _ hS1 ?_
  clear hK hSx
  try simp only [y0, y1, y2, y3, y4, y5, y6]
  refine anyH_one 6 (by kernel_rfl) rfl (by rfl) (fun K hK => ?_)
  go_simp
  (with_reducible refine (told_ans HL.out HAn.out.1 HV.out.1 HV.out.2).mono ?_)
  rintro e w2 ⟨ua, rfl, hu, k2⟩
  have HK2 := Lib.hid (show Keeps (fun _ => False) W w2 from Keeps.trans (by (first | exact HK1.out | exact HK1.out.drew | exact HK1.out.drew.drew)) k2)
  have HUa := Lib.hid hu
  clear hu
  clear HV
  clear k2
  have hS2 := HSN.out _ HK2.out
  refine hK _ _ hS2 ?_
  clear hK hS1
  try simp only [y0, y1, y2, y3, y4, y5, y6]
  (refine tk 7 (v := ?_) rfl (by kernel_rfl) (by kernel_rfl) hS2 ?_ ?_; rotate_left; (focus (rintro w hSw; (try dsimp only at hSw); go_simp; (try with_reducible rfl))); simp only [y0, y1, y2, y3, y4, y5, y6])
  refine wpAnyH_done (by kernel_rfl) ?_ _
  refine hKx _ _ ?_
  clear hKx hS2
  go_wp2
  rename_i Kx hKx
  refine wp_mono (Q := Exit.then Kx (fun _ _ _ => False)) ?_ (fun e a w h => by cases e <;> first | exact h | exact h.elim)
  refine wp_region_held_drew (S := fun W => (∀ i : Nat, W.cell? ⟨BL, i, none⟩ = ([.iface t0 (.pointer (some ⟨B0, 0, none⟩)), v 1, .iface t (.pointer (some ⟨B, 0, none⟩))] : List Value)[i]?) ∧ (∀ i : Nat, W.cell? ⟨BX, i, none⟩ = ([.int .i64 x.do_, .int .u32 (x.id : Int), .int .i32 x.b.x0, .int .i32 x.b.y0, .int .i32 x.b.x1, .int .i32 x.b.y1, .int .i32 x.px, .int .i32 x.py, .int .i32 x.qx, .int .i32 x.qy, .int .i64 x.stop] : List Value)[i]?)) (by kernel_rfl) (HSN.out _ (by (first | exact HK2.out | exact HK2.out.drew | exact HK2.out.drew.drew))) (fun hSx => ?_)
  (refine tk 0 (v := ?_) rfl (by kernel_rfl) (by kernel_rfl) hSx ?_ ?_; rotate_left; (focus (rintro w hSw; (try dsimp only at hSw); go_simp; (try with_reducible rfl))); simp only [y0, y1, y2, y3, y4, y5, y6])
  (refine tk 1 (v := ?_) rfl (by kernel_rfl) (by kernel_rfl) hSx ?_ ?_; rotate_left; (focus (rintro w hSw; (try dsimp only at hSw); go_simp; (try with_reducible rfl))); simp only [y0, y1, y2, y3, y4, y5, y6])
  (refine tk 2 (v := ?_) rfl (by kernel_rfl) (by kernel_rfl) hSx ?_ ?_; rotate_left; (focus (rintro w hSw; (try dsimp only at hSw); go_simp; (try with_reducible rfl))); simp only [y0, y1, y2, y3, y4, y5, y6])
  (refine tk 3 (v := ?_) rfl (by kernel_rfl) (by kernel_rfl) hSx ?_ ?_; rotate_left; (focus (rintro w hSw; (try dsimp only at hSw); go_simp; (try with_reducible rfl))); simp only [y0, y1, y2, y3, y4, y5, y6])
  (refine tk 4 (v := ?_) rfl (by kernel_rfl) (by kernel_rfl) hSx ?_ ?_; rotate_left; (focus (rintro w hSw; (try dsimp only at hSw); go_simp; (try with_reducible rfl))); simp only [y0, y1, y2, y3, y4, y5, y6])
  refine anyH_one 5 (by kernel_rfl) rfl (by rfl) (fun K hK => ?_)
  have hm := HM.out.1
  go_simp
  (with_reducible refine (HA.out.1 _ (by (first | exact HK2.out | exact HK2.out.drew | exact HK2.out.drew.drew)) _ _).mono ?_)
  rintro e w3 ⟨VB, V, rfl, k3, hv, ha⟩
  have HK3 := Lib.hid (show Keeps (fun _ => False) W w3 from Keeps.trans (by (first | exact HK2.out | exact HK2.out.drew | exact HK2.out.drew.drew)) k3)
  have HUa := Lib.hid (U32s_kd HUa.out (Keeps.trans (by (repeat (first | exact Keeps.refl _ _ | refine Keeps.alloc ?_ _ | refine Keeps.drew ?_))) k3))
  have HV := Lib.hid (And.intro hv ha)
  clear hv ha hm
  clear k3
  have hS3 := HSN.out _ HK3.out
  refine hK _ _ hS3 ?_
  clear hK hSx
  try simp only [y0, y1, y2, y3, y4, y5, y6]
  refine anyH_one 6 (by kernel_rfl) rfl (by rfl) (fun K hK => ?_)
  go_simp
  (with_reducible refine (told_ans HL.out HAn.out.2.1 HV.out.1 HV.out.2).mono ?_)
  rintro e w4 ⟨ub, rfl, hu, k4⟩
  have HK4 := Lib.hid (show Keeps (fun _ => False) W w4 from Keeps.trans (by (first | exact HK3.out | exact HK3.out.drew | exact HK3.out.drew.drew)) k4)
  have HUa := Lib.hid (U32s_kd HUa.out (Keeps.trans (by (repeat (first | exact Keeps.refl _ _ | refine Keeps.alloc ?_ _ | refine Keeps.drew ?_))) k4))
  have HUb := Lib.hid hu
  clear hu
  clear HV
  clear k4
  have hS4 := HSN.out _ HK4.out
  refine hK _ _ hS4 ?_
  clear hK hS3
  try simp only [y0, y1, y2, y3, y4, y5, y6]
  (refine tk 7 (v := ?_) rfl (by kernel_rfl) (by kernel_rfl) hS4 ?_ ?_; rotate_left; (focus (rintro w hSw; (try dsimp only at hSw); go_simp; (try with_reducible rfl))); simp only [y0, y1, y2, y3, y4, y5, y6])
  refine wpAnyH_done (by kernel_rfl) ?_ _
  refine hKx _ _ ?_
  clear hKx hS4
  go_wp2
  rename_i Kx hKx
  refine wp_mono (Q := Exit.then Kx (fun _ _ _ => False)) ?_ (fun e a w h => by cases e <;> first | exact h | exact h.elim)
  refine wp_region_held_drew (S := fun W => (∀ i : Nat, W.cell? ⟨BL, i, none⟩ = ([.iface t0 (.pointer (some ⟨B0, 0, none⟩)), v 1, .iface t (.pointer (some ⟨B, 0, none⟩))] : List Value)[i]?) ∧ (∀ i : Nat, W.cell? ⟨BX, i, none⟩ = ([.int .i64 x.do_, .int .u32 (x.id : Int), .int .i32 x.b.x0, .int .i32 x.b.y0, .int .i32 x.b.x1, .int .i32 x.b.y1, .int .i32 x.px, .int .i32 x.py, .int .i32 x.qx, .int .i32 x.qy, .int .i64 x.stop] : List Value)[i]?)) (by kernel_rfl) (HSN.out _ (by (first | exact HK4.out | exact HK4.out.drew | exact HK4.out.drew.drew))) (fun hSx => ?_)
  (refine tk 0 (v := ?_) rfl (by kernel_rfl) (by kernel_rfl) hSx ?_ ?_; rotate_left; (focus (rintro w hSw; (try dsimp only at hSw); go_simp; (try with_reducible rfl))); simp only [y0, y1, y2, y3, y4, y5, y6])
  (refine tk 1 (v := ?_) rfl (by kernel_rfl) (by kernel_rfl) hSx ?_ ?_; rotate_left; (focus (rintro w hSw; (try dsimp only at hSw); go_simp; (try with_reducible rfl))); simp only [y0, y1, y2, y3, y4, y5, y6])
  (refine tk 2 (v := ?_) rfl (by kernel_rfl) (by kernel_rfl) hSx ?_ ?_; rotate_left; (focus (rintro w hSw; (try dsimp only at hSw); go_simp; (try with_reducible rfl))); simp only [y0, y1, y2, y3, y4, y5, y6])
  (refine tk 3 (v := ?_) rfl (by kernel_rfl) (by kernel_rfl) hSx ?_ ?_; rotate_left; (focus (rintro w hSw; (try dsimp only at hSw); go_simp; (try with_reducible rfl))); simp only [y0, y1, y2, y3, y4, y5, y6])
  (refine tk 4 (v := ?_) rfl (by kernel_rfl) (by kernel_rfl) hSx ?_ ?_; rotate_left; (focus (rintro w hSw; (try dsimp only at hSw); go_simp; (try with_reducible rfl))); simp only [y0, y1, y2, y3, y4, y5, y6])
  (refine tk 5 (v := ?_) rfl (by kernel_rfl) (by kernel_rfl) hSx ?_ ?_; rotate_left; (focus (rintro w hSw; (try dsimp only at hSw); go_simp; (try with_reducible rfl))); simp only [y0, y1, y2, y3, y4, y5, y6])
  (refine tk 6 (v := ?_) rfl (by kernel_rfl) (by kernel_rfl) hSx ?_ ?_; rotate_left; (focus (rintro w hSw; (try dsimp only at hSw); go_simp; (try with_reducible rfl))); simp only [y0, y1, y2, y3, y4, y5, y6])
  refine anyH_one 7 (by kernel_rfl) rfl (by rfl) (fun K hK => ?_)
  have hm := HM.out.2
  go_simp
  (with_reducible refine (HA.out.2 _ (by (first | exact HK4.out | exact HK4.out.drew | exact HK4.out.drew.drew)) _ _ _ _).mono ?_)
  rintro e w5 ⟨VB, V, rfl, k5, hv, ha⟩
  have HK5 := Lib.hid (show Keeps (fun _ => False) W w5 from Keeps.trans (by (first | exact HK4.out | exact HK4.out.drew | exact HK4.out.drew.drew)) k5)
  have HUa := Lib.hid (U32s_kd HUa.out (Keeps.trans (by (repeat (first | exact Keeps.refl _ _ | refine Keeps.alloc ?_ _ | refine Keeps.drew ?_))) k5))
  have HUb := Lib.hid (U32s_kd HUb.out (Keeps.trans (by (repeat (first | exact Keeps.refl _ _ | refine Keeps.alloc ?_ _ | refine Keeps.drew ?_))) k5))
  have HV := Lib.hid (And.intro hv ha)
  clear hv ha hm
  clear k5
  have hS5 := HSN.out _ HK5.out
  refine hK _ _ hS5 ?_
  clear hK hSx
  try simp only [y0, y1, y2, y3, y4, y5, y6]
  refine anyH_one 8 (by kernel_rfl) rfl (by rfl) (fun K hK => ?_)
  go_simp
  (with_reducible refine (told_ans HL.out HAn.out.2.2 HV.out.1 HV.out.2).mono ?_)
  rintro e w6 ⟨uc, rfl, hu, k6⟩
  have HK6 := Lib.hid (show Keeps (fun _ => False) W w6 from Keeps.trans (by (first | exact HK5.out | exact HK5.out.drew | exact HK5.out.drew.drew)) k6)
  have HUa := Lib.hid (U32s_kd HUa.out (Keeps.trans (by (repeat (first | exact Keeps.refl _ _ | refine Keeps.alloc ?_ _ | refine Keeps.drew ?_))) k6))
  have HUb := Lib.hid (U32s_kd HUb.out (Keeps.trans (by (repeat (first | exact Keeps.refl _ _ | refine Keeps.alloc ?_ _ | refine Keeps.drew ?_))) k6))
  have HUc := Lib.hid hu
  clear hu
  clear HV
  clear k6
  have hS6 := HSN.out _ HK6.out
  refine hK _ _ hS6 ?_
  clear hK hS5
  try simp only [y0, y1, y2, y3, y4, y5, y6]
  (refine tk 9 (v := ?_) rfl (by kernel_rfl) (by kernel_rfl) hS6 ?_ ?_; rotate_left; (focus (rintro w hSw; (try dsimp only at hSw); go_simp; (try with_reducible rfl))); simp only [y0, y1, y2, y3, y4, y5, y6])
  refine wpAnyH_done (by kernel_rfl) ?_ _
  refine hKx _ _ ?_
  clear hKx hS6
  go_wp2
  rename_i Kx hKx
  refine wp_mono (Q := Exit.then Kx (fun _ _ _ => False)) ?_ (fun e a w h => by cases e <;> first | exact h | exact h.elim)
  refine wp_region_held_drew (S := fun W => (∀ i : Nat, W.cell? ⟨BL, i, none⟩ = ([.iface t0 (.pointer (some ⟨B0, 0, none⟩)), v 1, .iface t (.pointer (some ⟨B, 0, none⟩))] : List Value)[i]?) ∧ (∀ i : Nat, W.cell? ⟨BX, i, none⟩ = ([.int .i64 x.do_, .int .u32 (x.id : Int), .int .i32 x.b.x0, .int .i32 x.b.y0, .int .i32 x.b.x1, .int .i32 x.b.y1, .int .i32 x.px, .int .i32 x.py, .int .i32 x.qx, .int .i32 x.qy, .int .i64 x.stop] : List Value)[i]?)) (by kernel_rfl) (HSN.out _ (by (first | exact HK6.out | exact HK6.out.drew | exact HK6.out.drew.drew))) (fun hSx => ?_)
  (refine tk 0 (v := ?_) rfl (by kernel_rfl) (by kernel_rfl) hSx ?_ ?_; rotate_left; (focus (rintro w hSw; (try dsimp only at hSw); go_simp; (try with_reducible rfl))); simp only [y0, y1, y2, y3, y4, y5, y6])
  (refine tk 1 (v := ?_) rfl (by kernel_rfl) (by kernel_rfl) hSx ?_ ?_; rotate_left; (focus (rintro w hSw; (try dsimp only at hSw); go_simp; (try with_reducible rfl))); simp only [y0, y1, y2, y3, y4, y5, y6])
  (refine tk 2 (v := ?_) rfl (by kernel_rfl) (by kernel_rfl) hSx ?_ ?_; rotate_left; (focus (rintro w hSw; (try dsimp only at hSw); go_simp; (try with_reducible rfl))); simp only [y0, y1, y2, y3, y4, y5, y6])
  (refine tk 3 (v := ?_) rfl (by kernel_rfl) (by kernel_rfl) hSx ?_ ?_; rotate_left; (focus (rintro w hSw; (try dsimp only at hSw); go_simp; (try with_reducible rfl))); simp only [y0, y1, y2, y3, y4, y5, y6])
  (refine tk 4 (v := ?_) rfl (by kernel_rfl) (by kernel_rfl) hSx ?_ ?_; rotate_left; (focus (rintro w hSw; (try dsimp only at hSw); go_simp; (try with_reducible rfl))); simp only [y0, y1, y2, y3, y4, y5, y6])
  refine anyH_one 5 (by kernel_rfl) rfl (by rfl) (fun K hK => ?_)
  go_simp
  (with_reducible refine (same_ans HL.out HAn.out.1 (U32s_kd HUa.out (by (repeat (first | exact Keeps.refl _ _ | refine Keeps.alloc ?_ _ | refine Keeps.drew ?_)))) (U32s_kd HS.out.1 (by (first | exact HK6.out | exact HK6.out.drew | exact HK6.out.drew.drew)))).mono ?_)
  rintro e w7 ⟨rfl, k7⟩
  have HK7 := Lib.hid (show Keeps (fun _ => False) W w7 from Keeps.trans (by (first | exact HK6.out | exact HK6.out.drew | exact HK6.out.drew.drew)) k7)
  have HUa := Lib.hid (U32s_kd HUa.out (Keeps.trans (by (repeat (first | exact Keeps.refl _ _ | refine Keeps.alloc ?_ _ | refine Keeps.drew ?_))) k7))
  have HUb := Lib.hid (U32s_kd HUb.out (Keeps.trans (by (repeat (first | exact Keeps.refl _ _ | refine Keeps.alloc ?_ _ | refine Keeps.drew ?_))) k7))
  have HUc := Lib.hid (U32s_kd HUc.out (Keeps.trans (by (repeat (first | exact Keeps.refl _ _ | refine Keeps.alloc ?_ _ | refine Keeps.drew ?_))) k7))
  clear k7
  have hS7 := HSN.out _ HK7.out
  refine hK _ _ hS7 ?_
  clear hK hSx
  try simp only [y0, y1, y2, y3, y4, y5, y6]
  (refine tk 6 (v := ?_) rfl (by kernel_rfl) (by kernel_rfl) hS7 ?_ ?_; rotate_left; (focus (rintro w hSw; (try dsimp only at hSw); go_simp; (try with_reducible rfl))); simp only [y0, y1, y2, y3, y4, y5, y6])
  (refine tk 7 (v := ?_) rfl (by kernel_rfl) (by kernel_rfl) hS7 ?_ ?_; rotate_left; (focus (rintro w hSw; (try dsimp only at hSw); go_simp; (try with_reducible rfl))); simp only [y0, y1, y2, y3, y4, y5, y6])
  (refine tk 8 (v := ?_) rfl (by kernel_rfl) (by kernel_rfl) hS7 ?_ ?_; rotate_left; (focus (rintro w hSw; (try dsimp only at hSw); go_simp; (try with_reducible rfl))); simp only [y0, y1, y2, y3, y4, y5, y6])
  (refine tk 9 (v := ?_) rfl (by kernel_rfl) (by kernel_rfl) hS7 ?_ ?_; rotate_left; (focus (rintro w hSw; (try dsimp only at hSw); go_simp; (try with_reducible rfl))); simp only [y0, y1, y2, y3, y4, y5, y6])
  refine anyH_one 10 (by kernel_rfl) rfl (by rfl) (fun K hK => ?_)
  go_simp
  (with_reducible refine (same_ans HL.out HAn.out.2.1 (U32s_kd HUb.out (by (repeat (first | exact Keeps.refl _ _ | refine Keeps.alloc ?_ _ | refine Keeps.drew ?_)))) (U32s_kd HS.out.2.1 (by (first | exact HK7.out | exact HK7.out.drew | exact HK7.out.drew.drew)))).mono ?_)
  rintro e w8 ⟨rfl, k8⟩
  have HK8 := Lib.hid (show Keeps (fun _ => False) W w8 from Keeps.trans (by (first | exact HK7.out | exact HK7.out.drew | exact HK7.out.drew.drew)) k8)
  have HUa := Lib.hid (U32s_kd HUa.out (Keeps.trans (by (repeat (first | exact Keeps.refl _ _ | refine Keeps.alloc ?_ _ | refine Keeps.drew ?_))) k8))
  have HUb := Lib.hid (U32s_kd HUb.out (Keeps.trans (by (repeat (first | exact Keeps.refl _ _ | refine Keeps.alloc ?_ _ | refine Keeps.drew ?_))) k8))
  have HUc := Lib.hid (U32s_kd HUc.out (Keeps.trans (by (repeat (first | exact Keeps.refl _ _ | refine Keeps.alloc ?_ _ | refine Keeps.drew ?_))) k8))
  clear k8
  have hS8 := HSN.out _ HK8.out
  refine hK _ _ hS8 ?_
  clear hK hS7
  try simp only [y0, y1, y2, y3, y4, y5, y6]
  (refine tk 11 (v := ?_) rfl (by kernel_rfl) (by kernel_rfl) hS8 ?_ ?_; rotate_left; (focus (rintro w hSw; (try dsimp only at hSw); go_simp; (try with_reducible rfl))); simp only [y0, y1, y2, y3, y4, y5, y6])
  (refine tk 12 (v := ?_) rfl (by kernel_rfl) (by kernel_rfl) hS8 ?_ ?_; rotate_left; (focus (rintro w hSw; (try dsimp only at hSw); go_simp; (try with_reducible rfl))); simp only [y0, y1, y2, y3, y4, y5, y6])
  (refine tk 13 (v := ?_) rfl (by kernel_rfl) (by kernel_rfl) hS8 ?_ ?_; rotate_left; (focus (rintro w hSw; (try dsimp only at hSw); go_simp; (try with_reducible rfl))); simp only [y0, y1, y2, y3, y4, y5, y6])
  (refine tk 14 (v := ?_) rfl (by kernel_rfl) (by kernel_rfl) hS8 ?_ ?_; rotate_left; (focus (rintro w hSw; (try dsimp only at hSw); go_simp; (try with_reducible rfl))); simp only [y0, y1, y2, y3, y4, y5, y6])
  (refine tk 15 (v := ?_) rfl (by kernel_rfl) (by kernel_rfl) hS8 ?_ ?_; rotate_left; (focus (rintro w hSw; (try dsimp only at hSw); go_simp; (try with_reducible rfl))); simp only [y0, y1, y2, y3, y4, y5, y6])
  refine anyH_one 16 (by kernel_rfl) rfl (by rfl) (fun K hK => ?_)
  go_simp
  (with_reducible refine (same_ans HL.out HAn.out.2.2 (U32s_kd HUc.out (by (repeat (first | exact Keeps.refl _ _ | refine Keeps.alloc ?_ _ | refine Keeps.drew ?_)))) (U32s_kd HS.out.2.2 (by (first | exact HK8.out | exact HK8.out.drew | exact HK8.out.drew.drew)))).mono ?_)
  rintro e w9 ⟨rfl, k9⟩
  have HK9 := Lib.hid (show Keeps (fun _ => False) W w9 from Keeps.trans (by (first | exact HK8.out | exact HK8.out.drew | exact HK8.out.drew.drew)) k9)
  have HUa := Lib.hid (U32s_kd HUa.out (Keeps.trans (by (repeat (first | exact Keeps.refl _ _ | refine Keeps.alloc ?_ _ | refine Keeps.drew ?_))) k9))
  have HUb := Lib.hid (U32s_kd HUb.out (Keeps.trans (by (repeat (first | exact Keeps.refl _ _ | refine Keeps.alloc ?_ _ | refine Keeps.drew ?_))) k9))
  have HUc := Lib.hid (U32s_kd HUc.out (Keeps.trans (by (repeat (first | exact Keeps.refl _ _ | refine Keeps.alloc ?_ _ | refine Keeps.drew ?_))) k9))
  clear k9
  have hS9 := HSN.out _ HK9.out
  refine hK _ _ hS9 ?_
  clear hK hS8
  try simp only [y0, y1, y2, y3, y4, y5, y6]
  (refine tk 17 (v := ?_) rfl (by kernel_rfl) (by kernel_rfl) hS9 ?_ ?_; rotate_left; (focus (rintro w hSw; (try dsimp only at hSw); go_simp; (try with_reducible rfl))); simp only [y0, y1, y2, y3, y4, y5, y6])
  (refine tk 18 (v := ?_) rfl (by kernel_rfl) (by kernel_rfl) hS9 ?_ ?_; rotate_left; (focus (rintro w hSw; (try dsimp only at hSw); go_simp; (try with_reducible rfl))); simp only [y0, y1, y2, y3, y4, y5, y6])
  (refine tk 19 (v := ?_) rfl (by kernel_rfl) (by kernel_rfl) hS9 ?_ ?_; rotate_left; (focus (rintro w hSw; (try dsimp only at hSw); go_simp; (try with_reducible rfl))); simp only [y0, y1, y2, y3, y4, y5, y6])
  (refine tk 20 (v := ?_) rfl (by kernel_rfl) (by kernel_rfl) hS9 ?_ ?_; rotate_left; (focus (rintro w hSw; (try dsimp only at hSw); go_simp; (try with_reducible rfl))); simp only [y0, y1, y2, y3, y4, y5, y6])
  (refine tk 21 (v := ?_) rfl (by kernel_rfl) (by kernel_rfl) hS9 ?_ ?_; rotate_left; (focus (rintro w hSw; (try dsimp only at hSw); go_simp; (try with_reducible rfl))); simp only [y0, y1, y2, y3, y4, y5, y6])
  (refine tk 22 (v := ?_) rfl (by kernel_rfl) (by kernel_rfl) hS9 ?_ ?_; rotate_left; (focus (rintro w hSw; (try dsimp only at hSw); go_simp; (try with_reducible rfl))); simp only [y0, y1, y2, y3, y4, y5, y6])
  (refine tk 24 (v := ?_) rfl (by kernel_rfl) (by kernel_rfl) hS9 ?_ ?_; rotate_left; (focus (rintro w hSw; (try dsimp only at hSw); go_simp; (try with_reducible rfl))); simp only [y0, y1, y2, y3, y4, y5, y6])
  (refine tk 25 (v := ?_) rfl (by kernel_rfl) (by kernel_rfl) hS9 ?_ ?_; rotate_left; (focus (rintro w hSw; (try dsimp only at hSw); go_simp; (try with_reducible rfl))); simp only [y0, y1, y2, y3, y4, y5, y6])
  refine anyH_one 23 (by kernel_rfl) rfl (by rfl) (fun K hK => ?_)
  have hm := HN.out.1 _ (by first | exact HK9.out | (first | exact HK9.out | exact HK9.out.drew | exact HK9.out.drew.drew))
  go_simp
  (with_reducible refine (HN.out.2.1 _ (by (first | exact HK9.out | exact HK9.out.drew | exact HK9.out.drew.drew))).mono ?_)
  rintro e w10 ⟨rfl, hww⟩
  have k10 := keeps_eq (S := fun _ => False) hww
  clear hww
  have HK10 := Lib.hid (show Keeps (fun _ => False) W w10 from Keeps.trans (by (first | exact HK9.out | exact HK9.out.drew | exact HK9.out.drew.drew)) k10)
  have HUa := Lib.hid (U32s_kd HUa.out (Keeps.trans (by (repeat (first | exact Keeps.refl _ _ | refine Keeps.alloc ?_ _ | refine Keeps.drew ?_))) k10))
  have HUb := Lib.hid (U32s_kd HUb.out (Keeps.trans (by (repeat (first | exact Keeps.refl _ _ | refine Keeps.alloc ?_ _ | refine Keeps.drew ?_))) k10))
  have HUc := Lib.hid (U32s_kd HUc.out (Keeps.trans (by (repeat (first | exact Keeps.refl _ _ | refine Keeps.alloc ?_ _ | refine Keeps.drew ?_))) k10))
  clear hm
  clear k10
  have hS10 := HSN.out _ HK10.out
  refine hK _ _ hS10 ?_
  clear hK hS9
  try simp only [y0, y1, y2, y3, y4, y5, y6]
  refine anyH_one 26 (by kernel_rfl) rfl (by rfl) (fun K hK => ?_)
  have hm := HN.out.2.2.1 _ (by (first | exact HK10.out | exact HK10.out.drew | exact HK10.out.drew.drew))
  go_simp
  (with_reducible refine (HN.out.2.2.2 _ (by (first | exact HK10.out | exact HK10.out.drew | exact HK10.out.drew.drew))).mono ?_)
  rintro e w11 ⟨rfl, hww⟩
  have k11 := keeps_eq (S := fun _ => False) hww
  clear hww
  have HK11 := Lib.hid (show Keeps (fun _ => False) W w11 from Keeps.trans (by (first | exact HK10.out | exact HK10.out.drew | exact HK10.out.drew.drew)) k11)
  have HUa := Lib.hid (U32s_kd HUa.out (Keeps.trans (by (repeat (first | exact Keeps.refl _ _ | refine Keeps.alloc ?_ _ | refine Keeps.drew ?_))) k11))
  have HUb := Lib.hid (U32s_kd HUb.out (Keeps.trans (by (repeat (first | exact Keeps.refl _ _ | refine Keeps.alloc ?_ _ | refine Keeps.drew ?_))) k11))
  have HUc := Lib.hid (U32s_kd HUc.out (Keeps.trans (by (repeat (first | exact Keeps.refl _ _ | refine Keeps.alloc ?_ _ | refine Keeps.drew ?_))) k11))
  clear hm
  clear k11
  have hS11 := HSN.out _ HK11.out
  refine hK _ _ hS11 ?_
  clear hK hS10
  try simp only [y0, y1, y2, y3, y4, y5, y6]
  (refine tk 27 (v := ?_) rfl (by kernel_rfl) (by kernel_rfl) hS11 ?_ ?_; rotate_left; (focus (rintro w hSw; (try dsimp only at hSw); go_simp; (try with_reducible rfl))); simp only [y0, y1, y2, y3, y4, y5, y6])
  (refine tk 28 (v := ?_) rfl (by kernel_rfl) (by kernel_rfl) hS11 ?_ ?_; rotate_left; (focus (rintro w hSw; (try dsimp only at hSw); go_simp; (try with_reducible rfl))); simp only [y0, y1, y2, y3, y4, y5, y6])
  (refine tk 29 (v := ?_) rfl (by kernel_rfl) (by kernel_rfl) hS11 ?_ ?_; rotate_left; (focus (rintro w hSw; (try dsimp only at hSw); go_simp; (try with_reducible rfl))); simp only [y0, y1, y2, y3, y4, y5, y6])
  refine wpAnyH_done (by kernel_rfl) ?_ _
  refine hKx _ _ ?_
  clear hKx hS11
  go_wp2
  rename_i Kx hKx
  refine wp_mono (Q := Exit.then Kx (fun _ _ _ => False)) ?_ (fun e a w h => by cases e <;> first | exact h | exact h.elim)
  refine wp_region_held_drew (S := fun W => (∀ i : Nat, W.cell? ⟨BL, i, none⟩ = ([.iface t0 (.pointer (some ⟨B0, 0, none⟩)), v 1, .iface t (.pointer (some ⟨B, 0, none⟩))] : List Value)[i]?) ∧ (∀ i : Nat, W.cell? ⟨BX, i, none⟩ = ([.int .i64 x.do_, .int .u32 (x.id : Int), .int .i32 x.b.x0, .int .i32 x.b.y0, .int .i32 x.b.x1, .int .i32 x.b.y1, .int .i32 x.px, .int .i32 x.py, .int .i32 x.qx, .int .i32 x.qy, .int .i64 x.stop] : List Value)[i]?)) (by kernel_rfl) (HSN.out _ (by (first | exact HK11.out | exact HK11.out.drew | exact HK11.out.drew.drew))) (fun hSx => ?_)
  have z1 := lat_t x.px x.py
  have z2 := lat_t x.qx x.qy
  refine (Classical.em (On x.px x.py)).elim (fun hp => ?on) (fun hp => ?off)
  case' on => refine (Classical.em (On x.qx x.qy)).elim (fun hq => ?onon) (fun hq => ?onoff)
  case' onon =>
    simp only [hp, decide_true] at z1
    simp only [hq, decide_true] at z2
    have HPQ := Lib.hid (And.intro hp hq)
    clear hp hq
    (refine tk 0 (v := ?_) rfl (by kernel_rfl) (by kernel_rfl) hSx ?_ ?_; rotate_left; (focus (rintro w hSw; (try dsimp only at hSw); go_simp; (try with_reducible rfl))); simp only [y0, y1, y2, y3, y4, y5, y6])
    (refine tk 1 (v := ?_) rfl (by kernel_rfl) (by kernel_rfl) hSx ?_ ?_; rotate_left; (focus (rintro w hSw; (try dsimp only at hSw); go_simp; (try with_reducible rfl))); simp only [y0, y1, y2, y3, y4, y5, y6])
    refine anyH_one 2 (by kernel_rfl) rfl (by rfl) (fun K hK => ?_)
    go_simp
    (with_reducible refine (z1 _).mono ?_)
    rintro e w12 ⟨rfl, k12⟩
    have HK12 := Lib.hid (show Keeps (fun _ => False) W w12 from Keeps.trans (by (first | exact HK11.out | exact HK11.out.drew | exact HK11.out.drew.drew)) k12)
    have HUa := Lib.hid (U32s_kd HUa.out (Keeps.trans (by (repeat (first | exact Keeps.refl _ _ | refine Keeps.alloc ?_ _ | refine Keeps.drew ?_))) k12))
    have HUb := Lib.hid (U32s_kd HUb.out (Keeps.trans (by (repeat (first | exact Keeps.refl _ _ | refine Keeps.alloc ?_ _ | refine Keeps.drew ?_))) k12))
    have HUc := Lib.hid (U32s_kd HUc.out (Keeps.trans (by (repeat (first | exact Keeps.refl _ _ | refine Keeps.alloc ?_ _ | refine Keeps.drew ?_))) k12))
    clear k12
    have hS12 := HSN.out _ HK12.out
    refine hK _ _ hS12 ?_
    clear hK hSx
    try simp only [y0, y1, y2, y3, y4, y5, y6]
    (refine tk 3 (v := ?_) rfl (by kernel_rfl) (by kernel_rfl) hS12 ?_ ?_; rotate_left; (focus (rintro w hSw; (try dsimp only at hSw); go_simp; (try with_reducible rfl))); simp only [y0, y1, y2, y3, y4, y5, y6])
    (refine tk 4 (v := ?_) rfl (by kernel_rfl) (by kernel_rfl) hS12 ?_ ?_; rotate_left; (focus (rintro w hSw; (try dsimp only at hSw); go_simp; (try with_reducible rfl))); simp only [y0, y1, y2, y3, y4, y5, y6])
    (refine tk 5 (v := ?_) rfl (by kernel_rfl) (by kernel_rfl) hS12 ?_ ?_; rotate_left; (focus (rintro w hSw; (try dsimp only at hSw); go_simp; (try with_reducible rfl))); simp only [y0, y1, y2, y3, y4, y5, y6])
    refine anyH_one 6 (by kernel_rfl) rfl (by rfl) (fun K hK => ?_)
    go_simp
    (with_reducible refine (z2 _).mono ?_)
    rintro e w13 ⟨rfl, k13⟩
    have HK13 := Lib.hid (show Keeps (fun _ => False) W w13 from Keeps.trans (by (first | exact HK12.out | exact HK12.out.drew | exact HK12.out.drew.drew)) k13)
    have HUa := Lib.hid (U32s_kd HUa.out (Keeps.trans (by (repeat (first | exact Keeps.refl _ _ | refine Keeps.alloc ?_ _ | refine Keeps.drew ?_))) k13))
    have HUb := Lib.hid (U32s_kd HUb.out (Keeps.trans (by (repeat (first | exact Keeps.refl _ _ | refine Keeps.alloc ?_ _ | refine Keeps.drew ?_))) k13))
    have HUc := Lib.hid (U32s_kd HUc.out (Keeps.trans (by (repeat (first | exact Keeps.refl _ _ | refine Keeps.alloc ?_ _ | refine Keeps.drew ?_))) k13))
    clear k13
    have hS13 := HSN.out _ HK13.out
    refine hK _ _ hS13 ?_
    clear hK hS12
    try simp only [y0, y1, y2, y3, y4, y5, y6]
    (refine tk 7 (v := ?_) rfl (by kernel_rfl) (by kernel_rfl) hS13 ?_ ?_; rotate_left; (focus (rintro w hSw; (try dsimp only at hSw); go_simp; (try with_reducible rfl))); simp only [y0, y1, y2, y3, y4, y5, y6])
    (refine tk 8 (v := ?_) rfl (by kernel_rfl) (by kernel_rfl) hS13 ?_ ?_; rotate_left; (focus (rintro w hSw; (try dsimp only at hSw); go_simp; (try with_reducible rfl))); simp only [y0, y1, y2, y3, y4, y5, y6])
    (refine tk 9 (v := ?_) rfl (by kernel_rfl) (by kernel_rfl) hS13 ?_ ?_; rotate_left; (focus (rintro w hSw; (try dsimp only at hSw); go_simp; (try with_reducible rfl))); simp only [y0, y1, y2, y3, y4, y5, y6])
    (refine tk 10 (v := ?_) rfl (by kernel_rfl) (by kernel_rfl) hS13 ?_ ?_; rotate_left; (focus (rintro w hSw; (try dsimp only at hSw); go_simp; (try with_reducible rfl))); simp only [y0, y1, y2, y3, y4, y5, y6])
    refine anyH_one 11 (by kernel_rfl) rfl (by rfl) (fun K hK => ?_)
    go_simp
    (with_reducible refine (all_ans HL.out HAn.out.1 HAn.out.2.2 (U32s_kd HUa.out (by (repeat (first | exact Keeps.refl _ _ | refine Keeps.alloc ?_ _ | refine Keeps.drew ?_)))) (U32s_kd HUc.out (by (repeat (first | exact Keeps.refl _ _ | refine Keeps.alloc ?_ _ | refine Keeps.drew ?_)))) (at_cross HPQ.out.1 HPQ.out.2 HAn.out.1 HAn.out.2.2)).mono ?_)
    rintro e w14 ⟨rfl, k14⟩
    have HK14 := Lib.hid (show Keeps (fun _ => False) W w14 from Keeps.trans (by (first | exact HK13.out | exact HK13.out.drew | exact HK13.out.drew.drew)) k14)
    have HUa := Lib.hid (U32s_kd HUa.out (Keeps.trans (by (repeat (first | exact Keeps.refl _ _ | refine Keeps.alloc ?_ _ | refine Keeps.drew ?_))) k14))
    have HUb := Lib.hid (U32s_kd HUb.out (Keeps.trans (by (repeat (first | exact Keeps.refl _ _ | refine Keeps.alloc ?_ _ | refine Keeps.drew ?_))) k14))
    have HUc := Lib.hid (U32s_kd HUc.out (Keeps.trans (by (repeat (first | exact Keeps.refl _ _ | refine Keeps.alloc ?_ _ | refine Keeps.drew ?_))) k14))
    clear k14
    have hS14 := HSN.out _ HK14.out
    refine hK _ _ hS14 ?_
    clear hK hS13
    try simp only [y0, y1, y2, y3, y4, y5, y6]
    (refine tk 12 (v := ?_) rfl (by kernel_rfl) (by kernel_rfl) hS14 ?_ ?_; rotate_left; (focus (rintro w hSw; (try dsimp only at hSw); go_simp; (try with_reducible rfl))); simp only [y0, y1, y2, y3, y4, y5, y6])
    (refine tk 13 (v := ?_) rfl (by kernel_rfl) (by kernel_rfl) hS14 ?_ ?_; rotate_left; (focus (rintro w hSw; (try dsimp only at hSw); go_simp; (try with_reducible rfl))); simp only [y0, y1, y2, y3, y4, y5, y6])
    (refine tk 14 (v := ?_) rfl (by kernel_rfl) (by kernel_rfl) hS14 ?_ ?_; rotate_left; (focus (rintro w hSw; (try dsimp only at hSw); go_simp; (try with_reducible rfl))); simp only [y0, y1, y2, y3, y4, y5, y6])
    (refine tk 15 (v := ?_) rfl (by kernel_rfl) (by kernel_rfl) hS14 ?_ ?_; rotate_left; (focus (rintro w hSw; (try dsimp only at hSw); go_simp; (try with_reducible rfl))); simp only [y0, y1, y2, y3, y4, y5, y6])
    refine anyH_one 16 (by kernel_rfl) rfl (by rfl) (fun K hK => ?_)
    go_simp
    (with_reducible refine (all_ans HL.out HAn.out.2.1 HAn.out.2.2 (U32s_kd HUb.out (by (repeat (first | exact Keeps.refl _ _ | refine Keeps.alloc ?_ _ | refine Keeps.drew ?_)))) (U32s_kd HUc.out (by (repeat (first | exact Keeps.refl _ _ | refine Keeps.alloc ?_ _ | refine Keeps.drew ?_)))) (to_cross HPQ.out.1 HPQ.out.2 HAn.out.2.1 HAn.out.2.2)).mono ?_)
    rintro e w15 ⟨rfl, k15⟩
    have HK15 := Lib.hid (show Keeps (fun _ => False) W w15 from Keeps.trans (by (first | exact HK14.out | exact HK14.out.drew | exact HK14.out.drew.drew)) k15)
    have HUa := Lib.hid (U32s_kd HUa.out (Keeps.trans (by (repeat (first | exact Keeps.refl _ _ | refine Keeps.alloc ?_ _ | refine Keeps.drew ?_))) k15))
    have HUb := Lib.hid (U32s_kd HUb.out (Keeps.trans (by (repeat (first | exact Keeps.refl _ _ | refine Keeps.alloc ?_ _ | refine Keeps.drew ?_))) k15))
    have HUc := Lib.hid (U32s_kd HUc.out (Keeps.trans (by (repeat (first | exact Keeps.refl _ _ | refine Keeps.alloc ?_ _ | refine Keeps.drew ?_))) k15))
    clear k15
    have hS15 := HSN.out _ HK15.out
    refine hK _ _ hS15 ?_
    clear hK hS14
    try simp only [y0, y1, y2, y3, y4, y5, y6]
    (refine tk 17 (v := ?_) rfl (by kernel_rfl) (by kernel_rfl) hS15 ?_ ?_; rotate_left; (focus (rintro w hSw; (try dsimp only at hSw); go_simp; (try with_reducible rfl))); simp only [y0, y1, y2, y3, y4, y5, y6])
    (refine tk 18 (v := ?_) rfl (by kernel_rfl) (by kernel_rfl) hS15 ?_ ?_; rotate_left; (focus (rintro w hSw; (try dsimp only at hSw); go_simp; (try with_reducible rfl))); simp only [y0, y1, y2, y3, y4, y5, y6])
    have HKz := HK15
    have hSz := hS15
    clear HK15 hS15
  case' onoff =>
    simp only [hp, decide_true] at z1
    simp only [hq, decide_false] at z2
    clear hp hq
    (refine tk 0 (v := ?_) rfl (by kernel_rfl) (by kernel_rfl) hSx ?_ ?_; rotate_left; (focus (rintro w hSw; (try dsimp only at hSw); go_simp; (try with_reducible rfl))); simp only [y0, y1, y2, y3, y4, y5, y6])
    (refine tk 1 (v := ?_) rfl (by kernel_rfl) (by kernel_rfl) hSx ?_ ?_; rotate_left; (focus (rintro w hSw; (try dsimp only at hSw); go_simp; (try with_reducible rfl))); simp only [y0, y1, y2, y3, y4, y5, y6])
    refine anyH_one 2 (by kernel_rfl) rfl (by rfl) (fun K hK => ?_)
    go_simp
    (with_reducible refine (z1 _).mono ?_)
    rintro e w12 ⟨rfl, k12⟩
    have HK12 := Lib.hid (show Keeps (fun _ => False) W w12 from Keeps.trans (by (first | exact HK11.out | exact HK11.out.drew | exact HK11.out.drew.drew)) k12)
    have HUa := Lib.hid (U32s_kd HUa.out (Keeps.trans (by (repeat (first | exact Keeps.refl _ _ | refine Keeps.alloc ?_ _ | refine Keeps.drew ?_))) k12))
    have HUb := Lib.hid (U32s_kd HUb.out (Keeps.trans (by (repeat (first | exact Keeps.refl _ _ | refine Keeps.alloc ?_ _ | refine Keeps.drew ?_))) k12))
    have HUc := Lib.hid (U32s_kd HUc.out (Keeps.trans (by (repeat (first | exact Keeps.refl _ _ | refine Keeps.alloc ?_ _ | refine Keeps.drew ?_))) k12))
    clear k12
    have hS12 := HSN.out _ HK12.out
    refine hK _ _ hS12 ?_
    clear hK hSx
    try simp only [y0, y1, y2, y3, y4, y5, y6]
    (refine tk 3 (v := ?_) rfl (by kernel_rfl) (by kernel_rfl) hS12 ?_ ?_; rotate_left; (focus (rintro w hSw; (try dsimp only at hSw); go_simp; (try with_reducible rfl))); simp only [y0, y1, y2, y3, y4, y5, y6])
    (refine tk 4 (v := ?_) rfl (by kernel_rfl) (by kernel_rfl) hS12 ?_ ?_; rotate_left; (focus (rintro w hSw; (try dsimp only at hSw); go_simp; (try with_reducible rfl))); simp only [y0, y1, y2, y3, y4, y5, y6])
    (refine tk 5 (v := ?_) rfl (by kernel_rfl) (by kernel_rfl) hS12 ?_ ?_; rotate_left; (focus (rintro w hSw; (try dsimp only at hSw); go_simp; (try with_reducible rfl))); simp only [y0, y1, y2, y3, y4, y5, y6])
    refine anyH_one 6 (by kernel_rfl) rfl (by rfl) (fun K hK => ?_)
    go_simp
    (with_reducible refine (z2 _).mono ?_)
    rintro e w13 ⟨rfl, k13⟩
    have HK13 := Lib.hid (show Keeps (fun _ => False) W w13 from Keeps.trans (by (first | exact HK12.out | exact HK12.out.drew | exact HK12.out.drew.drew)) k13)
    have HUa := Lib.hid (U32s_kd HUa.out (Keeps.trans (by (repeat (first | exact Keeps.refl _ _ | refine Keeps.alloc ?_ _ | refine Keeps.drew ?_))) k13))
    have HUb := Lib.hid (U32s_kd HUb.out (Keeps.trans (by (repeat (first | exact Keeps.refl _ _ | refine Keeps.alloc ?_ _ | refine Keeps.drew ?_))) k13))
    have HUc := Lib.hid (U32s_kd HUc.out (Keeps.trans (by (repeat (first | exact Keeps.refl _ _ | refine Keeps.alloc ?_ _ | refine Keeps.drew ?_))) k13))
    clear k13
    have hS13 := HSN.out _ HK13.out
    refine hK _ _ hS13 ?_
    clear hK hS12
    try simp only [y0, y1, y2, y3, y4, y5, y6]
    (refine tk 7 (v := ?_) rfl (by kernel_rfl) (by kernel_rfl) hS13 ?_ ?_; rotate_left; (focus (rintro w hSw; (try dsimp only at hSw); go_simp; (try with_reducible rfl))); simp only [y0, y1, y2, y3, y4, y5, y6])
    (refine tk 8 (v := ?_) rfl (by kernel_rfl) (by kernel_rfl) hS13 ?_ ?_; rotate_left; (focus (rintro w hSw; (try dsimp only at hSw); go_simp; (try with_reducible rfl))); simp only [y0, y1, y2, y3, y4, y5, y6])
    (refine sk 9 rfl (by kernel_rfl) (by kernel_rfl) hS13 ?_; simp only [y0, y1, y2, y3, y4, y5, y6])
    (refine sk 10 rfl (by kernel_rfl) (by kernel_rfl) hS13 ?_; simp only [y0, y1, y2, y3, y4, y5, y6])
    (refine sk 11 rfl (by kernel_rfl) (by kernel_rfl) hS13 ?_; simp only [y0, y1, y2, y3, y4, y5, y6])
    (refine sk 12 rfl (by kernel_rfl) (by kernel_rfl) hS13 ?_; simp only [y0, y1, y2, y3, y4, y5, y6])
    (refine sk 13 rfl (by kernel_rfl) (by kernel_rfl) hS13 ?_; simp only [y0, y1, y2, y3, y4, y5, y6])
    (refine sk 14 rfl (by kernel_rfl) (by kernel_rfl) hS13 ?_; simp only [y0, y1, y2, y3, y4, y5, y6])
    (refine sk 15 rfl (by kernel_rfl) (by kernel_rfl) hS13 ?_; simp only [y0, y1, y2, y3, y4, y5, y6])
    (refine sk 16 rfl (by kernel_rfl) (by kernel_rfl) hS13 ?_; simp only [y0, y1, y2, y3, y4, y5, y6])
    (refine sk 17 rfl (by kernel_rfl) (by kernel_rfl) hS13 ?_; simp only [y0, y1, y2, y3, y4, y5, y6])
    (refine sk 18 rfl (by kernel_rfl) (by kernel_rfl) hS13 ?_; simp only [y0, y1, y2, y3, y4, y5, y6])
    have HKz := HK13
    have hSz := hS13
    clear HK13 hS13
  case' off =>
    simp only [hp, decide_false] at z1
    clear hp z2
    (refine tk 0 (v := ?_) rfl (by kernel_rfl) (by kernel_rfl) hSx ?_ ?_; rotate_left; (focus (rintro w hSw; (try dsimp only at hSw); go_simp; (try with_reducible rfl))); simp only [y0, y1, y2, y3, y4, y5, y6])
    (refine tk 1 (v := ?_) rfl (by kernel_rfl) (by kernel_rfl) hSx ?_ ?_; rotate_left; (focus (rintro w hSw; (try dsimp only at hSw); go_simp; (try with_reducible rfl))); simp only [y0, y1, y2, y3, y4, y5, y6])
    refine anyH_one 2 (by kernel_rfl) rfl (by rfl) (fun K hK => ?_)
    go_simp
    (with_reducible refine (z1 _).mono ?_)
    rintro e w12 ⟨rfl, k12⟩
    have HK12 := Lib.hid (show Keeps (fun _ => False) W w12 from Keeps.trans (by (first | exact HK11.out | exact HK11.out.drew | exact HK11.out.drew.drew)) k12)
    have HUa := Lib.hid (U32s_kd HUa.out (Keeps.trans (by (repeat (first | exact Keeps.refl _ _ | refine Keeps.alloc ?_ _ | refine Keeps.drew ?_))) k12))
    have HUb := Lib.hid (U32s_kd HUb.out (Keeps.trans (by (repeat (first | exact Keeps.refl _ _ | refine Keeps.alloc ?_ _ | refine Keeps.drew ?_))) k12))
    have HUc := Lib.hid (U32s_kd HUc.out (Keeps.trans (by (repeat (first | exact Keeps.refl _ _ | refine Keeps.alloc ?_ _ | refine Keeps.drew ?_))) k12))
    clear k12
    have hS12 := HSN.out _ HK12.out
    refine hK _ _ hS12 ?_
    clear hK hSx
    try simp only [y0, y1, y2, y3, y4, y5, y6]
    (refine tk 3 (v := ?_) rfl (by kernel_rfl) (by kernel_rfl) hS12 ?_ ?_; rotate_left; (focus (rintro w hSw; (try dsimp only at hSw); go_simp; (try with_reducible rfl))); simp only [y0, y1, y2, y3, y4, y5, y6])
    (refine sk 4 rfl (by kernel_rfl) (by kernel_rfl) hS12 ?_; simp only [y0, y1, y2, y3, y4, y5, y6])
    (refine sk 5 rfl (by kernel_rfl) (by kernel_rfl) hS12 ?_; simp only [y0, y1, y2, y3, y4, y5, y6])
    (refine sk 6 rfl (by kernel_rfl) (by kernel_rfl) hS12 ?_; simp only [y0, y1, y2, y3, y4, y5, y6])
    (refine tk 7 (v := ?_) rfl (by kernel_rfl) (by kernel_rfl) hS12 ?_ ?_; rotate_left; (focus (rintro w hSw; (try dsimp only at hSw); go_simp; (try with_reducible rfl))); simp only [y0, y1, y2, y3, y4, y5, y6])
    (refine tk 8 (v := ?_) rfl (by kernel_rfl) (by kernel_rfl) hS12 ?_ ?_; rotate_left; (focus (rintro w hSw; (try dsimp only at hSw); go_simp; (try with_reducible rfl))); simp only [y0, y1, y2, y3, y4, y5, y6])
    (refine sk 9 rfl (by kernel_rfl) (by kernel_rfl) hS12 ?_; simp only [y0, y1, y2, y3, y4, y5, y6])
    (refine sk 10 rfl (by kernel_rfl) (by kernel_rfl) hS12 ?_; simp only [y0, y1, y2, y3, y4, y5, y6])
    (refine sk 11 rfl (by kernel_rfl) (by kernel_rfl) hS12 ?_; simp only [y0, y1, y2, y3, y4, y5, y6])
    (refine sk 12 rfl (by kernel_rfl) (by kernel_rfl) hS12 ?_; simp only [y0, y1, y2, y3, y4, y5, y6])
    (refine sk 13 rfl (by kernel_rfl) (by kernel_rfl) hS12 ?_; simp only [y0, y1, y2, y3, y4, y5, y6])
    (refine sk 14 rfl (by kernel_rfl) (by kernel_rfl) hS12 ?_; simp only [y0, y1, y2, y3, y4, y5, y6])
    (refine sk 15 rfl (by kernel_rfl) (by kernel_rfl) hS12 ?_; simp only [y0, y1, y2, y3, y4, y5, y6])
    (refine sk 16 rfl (by kernel_rfl) (by kernel_rfl) hS12 ?_; simp only [y0, y1, y2, y3, y4, y5, y6])
    (refine sk 17 rfl (by kernel_rfl) (by kernel_rfl) hS12 ?_; simp only [y0, y1, y2, y3, y4, y5, y6])
    (refine sk 18 rfl (by kernel_rfl) (by kernel_rfl) hS12 ?_; simp only [y0, y1, y2, y3, y4, y5, y6])
    have HKz := HK12
    have hSz := hS12
    clear HK12 hS12
  all_goals
    (refine tk 19 (v := ?_) rfl (by kernel_rfl) (by kernel_rfl) hSz ?_ ?_; rotate_left; (focus (rintro w hSw; (try dsimp only at hSw); go_simp; (try with_reducible rfl))); simp only [y0, y1, y2, y3, y4, y5, y6])
    (refine tk 20 (v := ?_) rfl (by kernel_rfl) (by kernel_rfl) hSz ?_ ?_; rotate_left; (focus (rintro w hSw; (try dsimp only at hSw); go_simp; (try with_reducible rfl))); simp only [y0, y1, y2, y3, y4, y5, y6])
    (refine tk 21 (v := ?_) rfl (by kernel_rfl) (by kernel_rfl) hSz ?_ ?_; rotate_left; (focus (rintro w hSw; (try dsimp only at hSw); go_simp; (try with_reducible rfl))); simp only [y0, y1, y2, y3, y4, y5, y6])
    (refine tk 22 (v := ?_) rfl (by kernel_rfl) (by kernel_rfl) hSz ?_ ?_; rotate_left; (focus (rintro w hSw; (try dsimp only at hSw); go_simp; (try with_reducible rfl))); simp only [y0, y1, y2, y3, y4, y5, y6])
    (refine tk 23 (v := ?_) rfl (by kernel_rfl) (by kernel_rfl) hSz ?_ ?_; rotate_left; (focus (rintro w hSw; (try dsimp only at hSw); go_simp; (try with_reducible rfl))); simp only [y0, y1, y2, y3, y4, y5, y6])
    (refine tk 24 (v := ?_) rfl (by kernel_rfl) (by kernel_rfl) hSz ?_ ?_; rotate_left; (focus (rintro w hSw; (try dsimp only at hSw); go_simp; (try with_reducible rfl))); simp only [y0, y1, y2, y3, y4, y5, y6])
    (refine tk 25 (v := ?_) rfl (by kernel_rfl) (by kernel_rfl) hSz ?_ ?_; rotate_left; (focus (rintro w hSw; (try dsimp only at hSw); go_simp; (try with_reducible rfl))); simp only [y0, y1, y2, y3, y4, y5, y6])
    (refine tk 26 (v := ?_) rfl (by kernel_rfl) (by kernel_rfl) hSz ?_ ?_; rotate_left; (focus (rintro w hSw; (try dsimp only at hSw); go_simp; (try with_reducible rfl))); simp only [y0, y1, y2, y3, y4, y5, y6])
    (refine tk 27 (v := ?_) rfl (by kernel_rfl) (by kernel_rfl) hSz ?_ ?_; rotate_left; (focus (rintro w hSw; (try dsimp only at hSw); go_simp; (try with_reducible rfl))); simp only [y0, y1, y2, y3, y4, y5, y6])
    (refine tk 28 (v := ?_) rfl (by kernel_rfl) (by kernel_rfl) hSz ?_ ?_; rotate_left; (focus (rintro w hSw; (try dsimp only at hSw); go_simp; (try with_reducible rfl))); simp only [y0, y1, y2, y3, y4, y5, y6])
    refine anyH_one 29 (by kernel_rfl) rfl (by rfl) (fun K hK => ?_)
    have hm := HM.out.2
    go_simp
    (with_reducible refine (HA.out.2 _ (by (first | exact HKz.out | exact HKz.out.drew | exact HKz.out.drew.drew)) _ _ _ _).mono ?_)
    rintro e w91 ⟨VB, V, rfl, k91, hv, ha⟩
    have HK91 := Lib.hid (show Keeps (fun _ => False) W w91 from Keeps.trans (by (first | exact HKz.out | exact HKz.out.drew | exact HKz.out.drew.drew)) k91)
    have HUa := Lib.hid (U32s_kd HUa.out (Keeps.trans (by (repeat (first | exact Keeps.refl _ _ | refine Keeps.alloc ?_ _ | refine Keeps.drew ?_))) k91))
    have HUb := Lib.hid (U32s_kd HUb.out (Keeps.trans (by (repeat (first | exact Keeps.refl _ _ | refine Keeps.alloc ?_ _ | refine Keeps.drew ?_))) k91))
    have HUc := Lib.hid (U32s_kd HUc.out (Keeps.trans (by (repeat (first | exact Keeps.refl _ _ | refine Keeps.alloc ?_ _ | refine Keeps.drew ?_))) k91))
    have HV := Lib.hid (And.intro hv (meet_self HL.out ha))
    clear hv ha hm
    clear k91
    have hS91 := HSN.out _ HK91.out
    refine hK _ _ hS91 ?_
    clear hK hSz
    try simp only [y0, y1, y2, y3, y4, y5, y6]
    refine anyH_one 30 (by kernel_rfl) rfl (by rfl) (fun K hK => ?_)
    go_simp
    (with_reducible refine (told_ans HL.out HAn.out.1 HV.out.1 HV.out.2).mono ?_)
    rintro e w92 ⟨ud, rfl, hu, k92⟩
    have HK92 := Lib.hid (show Keeps (fun _ => False) W w92 from Keeps.trans (by (first | exact HK91.out | exact HK91.out.drew | exact HK91.out.drew.drew)) k92)
    have HUa := Lib.hid (U32s_kd HUa.out (Keeps.trans (by (repeat (first | exact Keeps.refl _ _ | refine Keeps.alloc ?_ _ | refine Keeps.drew ?_))) k92))
    have HUb := Lib.hid (U32s_kd HUb.out (Keeps.trans (by (repeat (first | exact Keeps.refl _ _ | refine Keeps.alloc ?_ _ | refine Keeps.drew ?_))) k92))
    have HUc := Lib.hid (U32s_kd HUc.out (Keeps.trans (by (repeat (first | exact Keeps.refl _ _ | refine Keeps.alloc ?_ _ | refine Keeps.drew ?_))) k92))
    have HUd := Lib.hid hu
    clear hu
    clear k92
    have hS92 := HSN.out _ HK92.out
    refine hK _ _ hS92 ?_
    clear hK hS91
    try simp only [y0, y1, y2, y3, y4, y5, y6]
    refine anyH_one 31 (by kernel_rfl) rfl (by rfl) (fun K hK => ?_)
    go_simp
    (with_reducible refine (same_ans HL.out HAn.out.1 (U32s_kd HUa.out (by (repeat (first | exact Keeps.refl _ _ | refine Keeps.alloc ?_ _ | refine Keeps.drew ?_)))) HUd.out).mono ?_)
    rintro e w93 ⟨rfl, k93⟩
    have HK93 := Lib.hid (show Keeps (fun _ => False) W w93 from Keeps.trans (by (first | exact HK92.out | exact HK92.out.drew | exact HK92.out.drew.drew)) k93)
    have HUa := Lib.hid (U32s_kd HUa.out (Keeps.trans (by (repeat (first | exact Keeps.refl _ _ | refine Keeps.alloc ?_ _ | refine Keeps.drew ?_))) k93))
    have HUb := Lib.hid (U32s_kd HUb.out (Keeps.trans (by (repeat (first | exact Keeps.refl _ _ | refine Keeps.alloc ?_ _ | refine Keeps.drew ?_))) k93))
    have HUc := Lib.hid (U32s_kd HUc.out (Keeps.trans (by (repeat (first | exact Keeps.refl _ _ | refine Keeps.alloc ?_ _ | refine Keeps.drew ?_))) k93))
    clear k93
    have hS93 := HSN.out _ HK93.out
    refine hK _ _ hS93 ?_
    clear hK hS92
    try simp only [y0, y1, y2, y3, y4, y5, y6]
    (refine tk 32 (v := ?_) rfl (by kernel_rfl) (by kernel_rfl) hS93 ?_ ?_; rotate_left; (focus (rintro w hSw; (try dsimp only at hSw); go_simp; (try with_reducible rfl))); simp only [y0, y1, y2, y3, y4, y5, y6])
    (refine tk 33 (v := ?_) rfl (by kernel_rfl) (by kernel_rfl) hS93 ?_ ?_; rotate_left; (focus (rintro w hSw; (try dsimp only at hSw); go_simp; (try with_reducible rfl))); simp only [y0, y1, y2, y3, y4, y5, y6])
    refine wpAnyH_done (by kernel_rfl) ?_ _
    refine hKx _ _ ?_
    clear hKx hS93
    go_wp2
    exact ⟨_, _, _, ⟨rfl, rfl, by simp⟩, by (first | exact HK93.out | exact HK93.out.drew | exact HK93.out.drew.drew), U32s_kd HUa.out (by (repeat (first | exact Keeps.refl _ _ | refine Keeps.alloc ?_ _ | refine Keeps.drew ?_))), U32s_kd HUb.out (by (repeat (first | exact Keeps.refl _ _ | refine Keeps.alloc ?_ _ | refine Keeps.drew ?_))), U32s_kd HUc.out (by (repeat (first | exact Keeps.refl _ _ | refine Keeps.alloc ?_ _ | refine Keeps.drew ?_)))⟩
end Fi
end Go.Proofs.YtdbpfbokfmpgcaaGreat
