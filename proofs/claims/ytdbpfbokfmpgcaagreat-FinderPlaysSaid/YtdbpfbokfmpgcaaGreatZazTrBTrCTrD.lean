/-
TrB: summed.
TrC: upLow, upHigh.
TrD: even.
-/
import Derived.Test.YtdbpfbokfmpgcaaGreatZayAvlAvlBTrA
set_option linter.unusedVariables false
set_option linter.unusedSimpArgs false
set_option maxHeartbeats 16000000
set_option maxRecDepth 100000
attribute [local go_sem] Go.Oper.semAt_some
namespace Go.Proofs.YtdbpfbokfmpgcaaGreat
theorem ZBN {p : Prop} (h : p := by decide) : p := h
theorem Zj {p : Prop} (h : p := by
 go_region_with (go_at_call 136; refine (HJ.out _).mono ?_; rintro e w1 ⟨rfl, hk1⟩; have hB1 := HB.out.kd hk1; have fB1 := hB1.frozen; have cB1 := hB1.cell; have HB1 := Lib.hid hB1; have HK1 := Lib.hid ((Keeps.refl (fun i => i = b) w).td hk1); clear cB cT hB1 hk1; simp only [Bx.val])
 all_goals
  clear cB1 fB1
  go_wp2
  exact ⟨⟨rfl, rfl, ZA7⟩, (((HK1.out.setCell ZA7 _).setCell ZA7 _).setCell ZA7 _).setCell ZA7 _, (((HB1.out.set_ 5 _).set_ 6 _).set_ 7 _).set_ 8 _⟩) : p := h
open Go.RowKit
namespace Tree
open Mem BT
theorem fr55 {a : Act} {l : List (Nat × Value)} (h : Fr a 55 l) : ∃ u0 u1 u2 u3 u4 u5 u6 u7 u8 u9 u10 u11 u12 u13 u14 u15 u16 u17 u18 u19 u20 u21 u22 u23 u24 u25 u26 u27 u28 u29 u30 u31 u32 u33 u34 u35 u36 u37 u38 u39 u40 u41 u42 u43 u44 u45 u46 u47 u48 u49 u50 u51 u52 u53 u54 : Value, a = ⟨#[u0, u1, u2, u3, u4, u5, u6, u7, u8, u9, u10, u11, u12, u13, u14, u15, u16, u17, u18, u19, u20, u21, u22, u23, u24, u25, u26, u27, u28, u29, u30, u31, u32, u33, u34, u35, u36, u37, u38, u39, u40, u41, u42, u43, u44, u45, u46, u47, u48, u49, u50, u51, u52, u53, u54], []⟩ := by
 obtain ⟨⟨t⟩, d⟩ := a
 obtain ⟨h1, h2, _⟩ := h
 simp only [List.size_toArray] at h1 h2
 subst h2
 obtain ⟨u0, t0, rfl, k0⟩ := cons_of (n := 54) h1
 obtain ⟨u1, t1, rfl, k1⟩ := cons_of (n := 53) k0
 obtain ⟨u2, t2, rfl, k2⟩ := cons_of (n := 52) k1
 obtain ⟨u3, t3, rfl, k3⟩ := cons_of (n := 51) k2
 obtain ⟨u4, t4, rfl, k4⟩ := cons_of (n := 50) k3
 obtain ⟨u5, t5, rfl, k5⟩ := cons_of (n := 49) k4
 obtain ⟨u6, t6, rfl, k6⟩ := cons_of (n := 48) k5
 obtain ⟨u7, t7, rfl, k7⟩ := cons_of (n := 47) k6
 obtain ⟨u8, t8, rfl, k8⟩ := cons_of (n := 46) k7
 obtain ⟨u9, t9, rfl, k9⟩ := cons_of (n := 45) k8
 obtain ⟨u10, t10, rfl, k10⟩ := cons_of (n := 44) k9
 obtain ⟨u11, t11, rfl, k11⟩ := cons_of (n := 43) k10
 obtain ⟨u12, t12, rfl, k12⟩ := cons_of (n := 42) k11
 obtain ⟨u13, t13, rfl, k13⟩ := cons_of (n := 41) k12
 obtain ⟨u14, t14, rfl, k14⟩ := cons_of (n := 40) k13
 obtain ⟨u15, t15, rfl, k15⟩ := cons_of (n := 39) k14
 obtain ⟨u16, t16, rfl, k16⟩ := cons_of (n := 38) k15
 obtain ⟨u17, t17, rfl, k17⟩ := cons_of (n := 37) k16
 obtain ⟨u18, t18, rfl, k18⟩ := cons_of (n := 36) k17
 obtain ⟨u19, t19, rfl, k19⟩ := cons_of (n := 35) k18
 obtain ⟨u20, t20, rfl, k20⟩ := cons_of (n := 34) k19
 obtain ⟨u21, t21, rfl, k21⟩ := cons_of (n := 33) k20
 obtain ⟨u22, t22, rfl, k22⟩ := cons_of (n := 32) k21
 obtain ⟨u23, t23, rfl, k23⟩ := cons_of (n := 31) k22
 obtain ⟨u24, t24, rfl, k24⟩ := cons_of (n := 30) k23
 obtain ⟨u25, t25, rfl, k25⟩ := cons_of (n := 29) k24
 obtain ⟨u26, t26, rfl, k26⟩ := cons_of (n := 28) k25
 obtain ⟨u27, t27, rfl, k27⟩ := cons_of (n := 27) k26
 obtain ⟨u28, t28, rfl, k28⟩ := cons_of (n := 26) k27
 obtain ⟨u29, t29, rfl, k29⟩ := cons_of (n := 25) k28
 obtain ⟨u30, t30, rfl, k30⟩ := cons_of (n := 24) k29
 obtain ⟨u31, t31, rfl, k31⟩ := cons_of (n := 23) k30
 obtain ⟨u32, t32, rfl, k32⟩ := cons_of (n := 22) k31
 obtain ⟨u33, t33, rfl, k33⟩ := cons_of (n := 21) k32
 obtain ⟨u34, t34, rfl, k34⟩ := cons_of (n := 20) k33
 obtain ⟨u35, t35, rfl, k35⟩ := cons_of (n := 19) k34
 obtain ⟨u36, t36, rfl, k36⟩ := cons_of (n := 18) k35
 obtain ⟨u37, t37, rfl, k37⟩ := cons_of (n := 17) k36
 obtain ⟨u38, t38, rfl, k38⟩ := cons_of (n := 16) k37
 obtain ⟨u39, t39, rfl, k39⟩ := cons_of (n := 15) k38
 obtain ⟨u40, t40, rfl, k40⟩ := cons_of (n := 14) k39
 obtain ⟨u41, t41, rfl, k41⟩ := cons_of (n := 13) k40
 obtain ⟨u42, t42, rfl, k42⟩ := cons_of (n := 12) k41
 obtain ⟨u43, t43, rfl, k43⟩ := cons_of (n := 11) k42
 obtain ⟨u44, t44, rfl, k44⟩ := cons_of (n := 10) k43
 obtain ⟨u45, t45, rfl, k45⟩ := cons_of (n := 9) k44
 obtain ⟨u46, t46, rfl, k46⟩ := cons_of (n := 8) k45
 obtain ⟨u47, t47, rfl, k47⟩ := cons_of (n := 7) k46
 obtain ⟨u48, t48, rfl, k48⟩ := cons_of (n := 6) k47
 obtain ⟨u49, t49, rfl, k49⟩ := cons_of (n := 5) k48
 obtain ⟨u50, t50, rfl, k50⟩ := cons_of (n := 4) k49
 obtain ⟨u51, t51, rfl, k51⟩ := cons_of (n := 3) k50
 obtain ⟨u52, t52, rfl, k52⟩ := cons_of (n := 2) k51
 obtain ⟨u53, t53, rfl, k53⟩ := cons_of (n := 1) k52
 obtain ⟨u54, t54, rfl, k54⟩ := cons_of (n := 0) k53
 obtain rfl := List.eq_nil_of_length_eq_zero k54
 exact ⟨_, _, _, _, _, _, _, _, _, _, _, _, _, _, _, _, _, _, _, _, _, _, _, _, _, _, _, _, _, _, _, _, _, _, _, _, _, _, _, _, _, _, _, _, _, _, _, _, _, _, _, _, _, _, _, rfl⟩
theorem index2_0 (p q : Option Addr) (W : World) : (Instr.index 210 (.agg #[.pointer p, .pointer q]) (.int .i64 0)).run Tryz.prog W = .ok (.pointer p) W := by kernel_rfl
theorem index2_1 (p q : Option Addr) (W : World) : (Instr.index 210 (.agg #[.pointer p, .pointer q]) (.int .i64 1)).run Tryz.prog W = .ok (.pointer q) W := by kernel_rfl
noncomputable def sumL : Code := (loops (Tryz.f164.body.getD .skip)).getD 0 .skip
def SumR (b id : Nat) (bx al : Bx) (pl pr : Option Addr) (d : Int) (k : Nat) (w : World) (a' : Act) (w' : World) : Prop :=
 Fr a' 55 [(0, .pointer (some ⟨b, 0, none⟩)), (35, .agg #[.pointer pl, .pointer pr]), (36, .int .i64 (k : Int))] ∧ Keeps (fun i => i = b) w w' ∧ Blk w' b 201 (ncells id bx al pl pr d)
theorem summed_nil (b id : Nat) (bx al : Bx) (pl pr : Option Addr) (d : Int) (k : Nat) (w : World)
 (hk : (k = 0 ∧ pl = none) ∨ (k = 1 ∧ pr = none)) (hB : Blk w b 201 (ncells id bx al pl pr d))
 (a : Act) (hF : Fr a 55 [(0, .pointer (some ⟨b, 0, none⟩)), (35, .agg #[.pointer pl, .pointer pr]), (36, .int .i64 (k : Int))]) :
 sumL.wp Tryz.prog (Outs (SumR b id bx al pl pr d (k + 1) w) (fun _ _ _ => False) (fun _ _ => False)) a w := by
 obtain ⟨u0, u1, u2, u3, u4, u5, u6, u7, u8, u9, u10, u11, u12, u13, u14, u15, u16, u17, u18, u19, u20, u21, u22, u23, u24, u25, u26, u27, u28, u29, u30, u31, u32, u33, u34, u35, u36, u37, u38, u39, u40, u41, u42, u43, u44, u45, u46, u47, u48, u49, u50, u51, u52, u53, u54, rfl⟩ := fr55 hF
 obtain rfl : u0 = .pointer (some ⟨b, 0, none⟩) := hF.at_ 0 _ ZA7
 obtain rfl : u35 = .agg #[.pointer pl, .pointer pr] := hF.at_ 35 _ ZA7
 obtain rfl : u36 = .int .i64 (k : Int) := hF.at_ 36 _ ZA7
 clear hF
 have HB := Lib.hid hB; clear hB
 conv => arg 2; whnf
 have hx0 := index2_0
 have hx1 := index2_1
 rcases hk with ⟨rfl, rfl⟩ | ⟨rfl, rfl⟩
 ·go_wp2
  exact ⟨⟨rfl, rfl, ZA7⟩, Keeps.refl _ w, HB.out⟩
 ·go_wp2
  exact ⟨⟨rfl, rfl, ZA7⟩, Keeps.refl _ w, HB.out⟩
theorem summed_one (b id : Nat) (bx al : Bx) (pl pr : Option Addr) (d : Int) (tb tid : Nat) (tbx tal : Bx) (tl tr : Option Addr) (td : Int) (k : Nat) (w : World)
 (hk : (k = 0 ∧ pl = some ⟨tb, 0, none⟩) ∨ (k = 1 ∧ pr = some ⟨tb, 0, none⟩)) (hB : Blk w b 201 (ncells id bx al pl pr d)) (hT : Blk w tb 201 (ncells tid tbx tal tl tr td)) (hbt : b ≠ tb) (hal : al.right = true) (htal : tal.right = true)
 (a : Act) (hF : Fr a 55 [(0, .pointer (some ⟨b, 0, none⟩)), (35, .agg #[.pointer pl, .pointer pr]), (36, .int .i64 (k : Int))]) :
 sumL.wp Tryz.prog (Outs (SumR b id bx (al.join tal) pl pr d (k + 1) w) (fun _ _ _ => False) (fun _ _ => False)) a w := by
 obtain ⟨u0, u1, u2, u3, u4, u5, u6, u7, u8, u9, u10, u11, u12, u13, u14, u15, u16, u17, u18, u19, u20, u21, u22, u23, u24, u25, u26, u27, u28, u29, u30, u31, u32, u33, u34, u35, u36, u37, u38, u39, u40, u41, u42, u43, u44, u45, u46, u47, u48, u49, u50, u51, u52, u53, u54, rfl⟩ := fr55 hF
 obtain rfl : u0 = .pointer (some ⟨b, 0, none⟩) := hF.at_ 0 _ ZA7
 obtain rfl : u35 = .agg #[.pointer pl, .pointer pr] := hF.at_ 35 _ ZA7
 obtain rfl : u36 = .int .i64 (k : Int) := hF.at_ 36 _ ZA7
 clear hF
 conv => arg 2; whnf
 unfold ncells at hB hT
 have cB := hB.cell
 have cT := hT.cell
 have HB := Lib.hid hB; clear hB
 have HT := Lib.hid hT; clear hT
 have HJ := Lib.hid (fun W => join_b al tal W hal htal)
 have hx0 := index2_0
 have hx1 := index2_1
 rcases hk with ⟨rfl, rfl⟩ | ⟨rfl, rfl⟩
 ·go_wp2
  exact Zj
 ·go_wp2
  exact Zj
theorem summed_round (b id : Nat) (bx al : Bx) (pl pr : Option Addr) (d : Int) (t : BT) (k : Nat) (w : World)
 (hk : (k = 0 ∧ pl = ptr t) ∨ (k = 1 ∧ pr = ptr t)) (hB : Blk w b 201 (ncells id bx al pl pr d)) (hT : IsT w t) (hbt : b ∉ blocks t) (okt : Fine t) (hal : al.right = true)
 (a : Act) (hF : Fr a 55 [(0, .pointer (some ⟨b, 0, none⟩)), (35, .agg #[.pointer pl, .pointer pr]), (36, .int .i64 (k : Int))]) :
 sumL.wp Tryz.prog (Outs (SumR b id bx (al1 t al) pl pr d (k + 1) w) (fun _ _ _ => False) (fun _ _ => False)) a w := by
 cases t with
 | nil => exact summed_nil b id bx al pl pr d k w hk hB a hF
 | node tb tid tbx tal td tl tr => exact summed_one b id bx al pl pr d tb tid tbx tal _ _ td k w hk hB hT.1 (fun e => hbt (by simp [blocks, e])) hal (fine_al okt) a hF
theorem summed_exit (b id : Nat) (bx al : Bx) (pl pr : Option Addr) (d : Int) (w w0 : World) (hk : Keeps (fun i => i = b) w0 w) (hB : Blk w b 201 (ncells id bx al pl pr d))
 (a : Act) (hF : Fr a 55 [(0, .pointer (some ⟨b, 0, none⟩)), (35, .agg #[.pointer pl, .pointer pr]), (36, .int .i64 ((2 : Nat) : Int))]) :
 sumL.wp Tryz.prog (Outs (fun _ _ => False) (fun n a' w' => n = 0 ∧ SumR b id bx al pl pr d 2 w0 a' w') (fun _ _ => False)) a w := by
 obtain ⟨u0, u1, u2, u3, u4, u5, u6, u7, u8, u9, u10, u11, u12, u13, u14, u15, u16, u17, u18, u19, u20, u21, u22, u23, u24, u25, u26, u27, u28, u29, u30, u31, u32, u33, u34, u35, u36, u37, u38, u39, u40, u41, u42, u43, u44, u45, u46, u47, u48, u49, u50, u51, u52, u53, u54, rfl⟩ := fr55 hF
 obtain rfl : u0 = .pointer (some ⟨b, 0, none⟩) := hF.at_ 0 _ ZA7
 obtain rfl : u35 = .agg #[.pointer pl, .pointer pr] := hF.at_ 35 _ ZA7
 obtain rfl : u36 = .int .i64 ((2 : Nat) : Int) := hF.at_ 36 _ ZA7
 clear hF
 have HB := Lib.hid hB; clear hB
 conv => arg 2; whnf
 go_wp2
 exact ⟨rfl, ⟨rfl, rfl, ZA7⟩, hk, HB.out⟩
def Summed (b id : Nat) (bx : Bx) (l r : BT) (w : World) (e : Ending) (w' : World) : Prop :=
 e = .returned (.pointer (some ⟨b, 0, none⟩)) ∧ Keeps (fun k => k = b) w w' ∧ Blk w' b 201 (ncells id bx (al1 r (al1 l bx)) (ptr l) (ptr r) (1 + max (dp l) (dp r)))
theorem summed_any (b id : Nat) (bx al0 : Bx) (d0 : Int) (l r : BT) (w : World) (hB : Blk w b 201 (ncells id bx al0 (ptr l) (ptr r) d0)) (hL : IsT w l) (hR : IsT w r) (hbl : b ∉ blocks l) (hbr : b ∉ blocks r)
 (okl : Fine l) (okr : Fine r) (hb : bx.right = true) (hl : dp l ≤ 1000) (hr : dp r ≤ 1000) :
 Calls Tryz.prog 164 #[.pointer (some ⟨b, 0, none⟩)] w (Summed b id bx l r w) := by
 have nl := fine_dp okl
 have nr := fine_dp okr
 have hwr : IntKind.i64.wrap (1 + max (dp l) (dp r)) = 1 + max (dp l) (dp r) := IntWalk.i64_in _ Z8
 have hmx : (if dp l < dp r then dp r else dp l) = max (dp l) (dp r) := by split <;> omega
 have DL := depth_any l w.drew (hL.kd (Keeps.refl _ w).drew)
 have DR := depth_any r w.drew (hR.kd (Keeps.refl _ w).drew)
 have HRl := Lib.hid (summed_round b id bx bx (ptr l) (ptr r) (1 + max (dp l) (dp r)) l 0 · (.inl ⟨rfl, rfl⟩) · · hbl okl hb)
 have HRr := Lib.hid (summed_round b id bx (al1 l bx) (ptr l) (ptr r) (1 + max (dp l) (dp r)) r 1 · (.inr ⟨rfl, rfl⟩) · · hbr okr (fine_al1 okl hb))
 unfold Summed
 generalize hpl : ptr l = pl at *
 generalize hpr : ptr r = pr at *
 generalize hdl : dp l = dl at *
 generalize hdr : dp r = dr at *
 have c11 := hB.cell 11
 have c5 := hB.cell 5
 have c6 := hB.cell 6
 have c7 := hB.cell 7
 have c8 := hB.cell 8
 have fB := hB.frozen
 have cB := cells_blk (fun i => i < 5 ∨ i = 9 ∨ i = 10) hB
 unfold ncells at c5 c6 c7 c8 c11 cB
 simp only [List.getElem?_cons_succ, List.getElem?_cons_zero] at c5 c6 c7 c8 c11
 have HL := Lib.hid hL
 have HR := Lib.hid hR
 have HB := Lib.hid hB
 clear hL hR hB
 go_enter Tryz.func164, Tryz.ntmps164
 go_wp2
 go_region_held3 (fun W => ∀ i, (i < 5 ∨ i = 9 ∨ i = 10) → W.cell? ⟨b, i, none⟩ = ([.int .u32 (id : Int), .int .i32 bx.x0, .int .i32 bx.y0, .int .i32 bx.x1, .int .i32 bx.y1, .int .i32 al0.x0, .int .i32 al0.y0, .int .i32 al0.x1, .int .i32 al0.y1, .pointer pl, .pointer pr, .int .i64 d0] : List Value)[i]?) (repeat (first | with_reducible assumption | with_reducible exact cB | (with_reducible refine cells_set (fun i => i < 5 ∨ i = 9 ∨ i = 10) ?_ (.inr ZBN)) | with_reducible refine cells_drew (fun i => i < 5 ∨ i = 9 ∨ i = 10) ?_)) (first
  | (go_at_call 166; (first | refine DL.mono ?_ | refine DR.mono ?_); rintro e w1 ⟨rfl, rfl⟩))
 clear c11 c5 c6 c7 c8 cB fB
 obtain ⟨w2, hw2⟩ := ZBD ((((((w.setCell ⟨b, 11, none⟩ (.int .i64 (1 + max dl dr))).setCell ⟨b, 5, none⟩ (.int .i32 bx.x0)).setCell ⟨b, 6, none⟩ (.int .i32 bx.y0)).setCell ⟨b, 7, none⟩ (.int .i32 bx.x1)).setCell ⟨b, 8, none⟩ (.int .i32 bx.y1)))
 have hK2 : Keeps (fun i => i = b) w w2 := hw2 ▸ (((((Keeps.refl (fun i => i = b) w).setCell ZA7 _).setCell ZA7 _).setCell ZA7 _).setCell ZA7 _).setCell ZA7 _
 have hB2 : Blk w2 b 201 (ncells id bx bx pl pr (1 + max dl dr)) := hw2 ▸ (((((HB.out.set_ 11 _).set_ 5 _).set_ 6 _).set_ 7 _).set_ 8 _)
 rw [← hw2]
 have hL2 := HL.out.keeps hK2 (fun x hx e => hbl (e ▸ hx))
 have hR2 := HR.out.keeps hK2 (fun x hx e => hbr (e ▸ hx))
 have c9 := hB2.cell 9
 have c10 := hB2.cell 10
 unfold ncells at c9 c10
 simp only [List.getElem?_cons_succ, List.getElem?_cons_zero] at c9 c10
 clear hw2
 have HB2 := Lib.hid hB2
 have HK2 := Lib.hid hK2
 have HL2 := Lib.hid hL2
 have HR2 := Lib.hid hR2
 clear hB2 hK2 hL2 hR2 HB HL HR DL DR hmx hwr
 go_wp2
 go_region
 all_goals
  go_wp2
  refine wp_loop_rounds 3 ?_
  rw [rounds_succ]
  refine wp_mono (HRl.out w2.drew.drew HB2.out (HL2.out.kd (Keeps.refl _ w2).drew.drew) _ ?_) ?_
  ·exact ⟨rfl, rfl, ZA7⟩
  refine Outs.mono ?_ (fun _ _ _ h => h.elim) (fun _ _ h => h.elim)
  rintro a3 w3 ⟨hF3, hK3, hB3⟩
  replace hK3 := (Keeps.refl _ w2).drew.drew.trans hK3
  show Code.rounds _ _ _ 2 _ _
  rw [rounds_succ]
  refine wp_mono (HRr.out w3 hB3 (HR2.out.keeps hK3 (fun x hx e => hbr (e ▸ hx))) _ hF3) ?_
  refine Outs.mono ?_ (fun _ _ _ h => h.elim) (fun _ _ h => h.elim)
  rintro a4 w4 ⟨hF4, hK4, hB4⟩
  show Code.rounds _ _ _ 1 _ _
  rw [rounds_succ]
  refine wp_mono (summed_exit b id bx (al1 r (al1 l bx)) pl pr (1 + max dl dr) w4 w ((HK2.out.trans hK3).trans hK4) hB4 _ hF4) ?_
  refine Outs.mono (fun _ _ h => h.elim) ?_ (fun _ _ h => h.elim)
  rintro n a5 w5 ⟨rfl, hF5, hK5, hB5⟩
  obtain ⟨u0, u1, u2, u3, u4, u5, u6, u7, u8, u9, u10, u11, u12, u13, u14, u15, u16, u17, u18, u19, u20, u21, u22, u23, u24, u25, u26, u27, u28, u29, u30, u31, u32, u33, u34, u35, u36, u37, u38, u39, u40, u41, u42, u43, u44, u45, u46, u47, u48, u49, u50, u51, u52, u53, u54, rfl⟩ := fr55 hF5
  obtain rfl : u0 = .pointer (some ⟨b, 0, none⟩) := hF5.at_ 0 _ ZA7
  clear hF5
  have HK5 := Lib.hid hK5
  have HB5 := Lib.hid hB5
  clear hK5 hB5 hB4 hK4 hF4 hB3 hK3 hF3
  go_wp2
  go_ret
  exact ⟨rfl, HK5.out, HB5.out⟩
end Tree
open Go.RowKit
namespace Tree
open Mem BT
structure Nd (M : Int) (w : World) (b id : Nat) (bx : Bx) (l r : BT) : Prop where
 blk : ∃ al d, Blk w b 201 (ncells id bx al (ptr l) (ptr r) d)
 isl : IsT w l
 isr : IsT w r
 nodup : (b :: (blocks l ++ blocks r)).Nodup
 fl : Fine l
 fr : Fine r
 right : bx.right = true
 dl : dp l ≤ M
 dr : dp r ≤ M
theorem Nd.bl {M : Int} {w : World} {b id : Nat} {bx : Bx} {l r : BT} (h : Nd M w b id bx l r) : b ∉ blocks l := fun hx => (List.nodup_cons.1 h.nodup).1 (List.mem_append.2 (.inl hx))
theorem Nd.br {M : Int} {w : World} {b id : Nat} {bx : Bx} {l r : BT} (h : Nd M w b id bx l r) : b ∉ blocks r := fun hx => (List.nodup_cons.1 h.nodup).1 (List.mem_append.2 (.inr hx))
def Made (t : BT) (S : Nat → Prop) (w : World) (e : Ending) (w' : World) : Prop := e = .returned (.pointer (ptr t)) ∧ Keeps S w w' ∧ IsT w' t
theorem summed_t (b id : Nat) (bx : Bx) (l r : BT) (w : World) (h : Nd 1000 w b id bx l r) :
 Calls Tryz.prog 164 #[.pointer (some ⟨b, 0, none⟩)] w (Made (mk' b id bx l r) (fun k => k = b) w) := by
 obtain ⟨al, d, hB⟩ := h.blk
 refine (summed_any b id bx al d l r w hB h.isl h.isr h.bl h.br h.fl h.fr h.right h.dl h.dr).mono ?_
 rintro e w' ⟨rfl, hk, hB'⟩
 exact ⟨rfl, hk, hB', h.isl.keeps hk (fun x hx e => h.bl (e ▸ hx)), h.isr.keeps hk (fun x hx e => h.br (e ▸ hx))⟩
theorem upLow_t (b id : Nat) (bx : Bx) (b' id' : Nat) (bx' al' : Bx) (d' : Int) (ll lr r : BT) (w : World) (h : Nd 900 w b id bx (node b' id' bx' al' d' ll lr) r) :
 Calls Tryz.prog 168 #[.pointer (some ⟨b, 0, none⟩)] w (Made (rotL b id bx (node b' id' bx' al' d' ll lr) r) (fun k => k = b ∨ k = b') w) := by
 obtain ⟨al, d, hB⟩ := h.blk
 have hn := h.nodup
 simp only [blocks, List.cons_append, List.nodup_cons, List.mem_cons, List.mem_append, List.append_assoc, not_or] at hn
 have hbb : b ≠ b' := hn.1.1
 have hK2 := ((Keeps.refl (fun k => k = b ∨ k = b') w).setCell (p := ⟨b, 9, none⟩) ZA7 (.pointer (ptr lr))).setCell (p := ⟨b', 10, none⟩) ZA7 (.pointer (some ⟨b, 0, none⟩))
 have hB2 := (hB.set_ 9 (.pointer (ptr lr))).far (p := ⟨b', 10, none⟩) hbb (.pointer (some ⟨b, 0, none⟩))
 have hC2 := (h.isl.1.far (p := ⟨b, 9, none⟩) (Ne.symm hbb) (.pointer (ptr lr))).set_ 10 (.pointer (some ⟨b, 0, none⟩))
 have hll2 := h.isl.2.1.keeps hK2 (by rintro x hx (rfl | rfl); exact hn.1.2.1 hx; exact hn.2.1.1 hx)
 have hlr2 := h.isl.2.2.keeps hK2 (by rintro x hx (rfl | rfl); exact hn.1.2.2.1 hx; exact hn.2.1.2.1 hx)
 have hr2 := h.isr.keeps hK2 (by rintro x hx (rfl | rfl); exact hn.1.2.2.2 hx; exact hn.2.1.2.2 hx)
 have hd := h.dl
 obtain ⟨f1, f2, f3, f4, f5⟩ := h.fl
 have hdl : dp ll ≤ 901 ∧ dp lr ≤ 900 := by
  simp only [dp_node] at hd; omega
 have hdr := h.dr
 have cB := hB.cell
 have cC := h.isl.1.cell
 have fB := hB.frozen
 have fC := h.isl.1.frozen
 unfold ncells at cB cC
 rw [show ptr (node b' id' bx' al' d' ll lr) = some ⟨b', 0, none⟩ from rfl] at cB
 have S1 := Lib.hid (summed_any b id bx al d lr r _ hB2 hlr2 hr2 hn.1.2.2.1 hn.1.2.2.2 f5 h.fr h.right Z8 Z8)
 have hfr := h.fr
 have hri := h.right
 have hbll := hn.1.2.1
 have hS2 : ∀ w3, Summed b id bx lr r ((w.setCell ⟨b, 9, none⟩ (.pointer (ptr lr))).setCell ⟨b', 10, none⟩ (.pointer (some ⟨b, 0, none⟩))) (.returned (.pointer (some ⟨b, 0, none⟩))) w3 →
  Calls Tryz.prog 164 #[.pointer (some ⟨b', 0, none⟩)] w3 (Made (rotL b id bx (node b' id' bx' al' d' ll lr) r) (fun k => k = b ∨ k = b') w) := by
  rintro w3 ⟨_, hk3, hB3⟩
  have hM : IsT w3 (mk' b id bx lr r) := ⟨hB3, hlr2.keeps hk3 (fun x hx e => hn.1.2.2.1 (e ▸ hx)), hr2.keeps hk3 (fun x hx e => hn.1.2.2.2 (e ▸ hx))⟩
  have hL3 := hll2.keeps hk3 (fun x hx e => hbll (e ▸ hx))
  refine (summed_any b' id' bx' al' d' ll (mk' b id bx lr r) w3 (hC2.keeps hk3 (Ne.symm hbb)) hL3 hM hn.2.1.1 (by simp only [blocks_mk, List.mem_cons, List.mem_append, not_or]; exact ⟨Ne.symm hbb, hn.2.1.2⟩) f4 (mk_fine h.right f5 h.fr) f1 Z8 (by simp only [dp_mk]; omega)).mono ?_
  rintro e w4 ⟨rfl, hk4, hB4⟩
  exact ⟨rfl, (hK2.trans (hk3.mono (fun k _ e => .inl e))).trans (hk4.mono (fun k _ e => .inr e)), hB4, hL3.keeps hk4 (fun x hx e => hn.2.1.1 (e ▸ hx)), hM.keeps hk4 (by
   simp only [blocks_mk, List.mem_cons, List.mem_append]
   rintro x (rfl | hx | hx) e
   ·exact hbb e
   ·exact hn.2.1.2.1 (e ▸ hx)
   ·exact hn.2.1.2.2 (e ▸ hx))⟩
 have HS2 := Lib.hid hS2
 clear hS2 hB h hC2 hK2 hll2 hr2 hlr2
 go_enter Tryz.func168, Tryz.ntmps168
 go_wp2_with (first
  | (go_at_call 164; (with_reducible refine S1.out.mono ?_); rintro e w3 ⟨rfl, h3⟩; have HS3 := Lib.hid (HS2.out w3 ⟨rfl, h3⟩); clear h3)
  | (go_at_call 164; (with_reducible refine HS3.out.mono ?_); rintro e w4 ⟨rfl, hk4, hT4⟩))
 go_ret
 exact ⟨rfl, hk4, hT4⟩
theorem upHigh_t (b id : Nat) (bx : Bx) (b' id' : Nat) (bx' al' : Bx) (d' : Int) (l rl rr : BT) (w : World) (h : Nd 900 w b id bx l (node b' id' bx' al' d' rl rr)) :
 Calls Tryz.prog 167 #[.pointer (some ⟨b, 0, none⟩)] w (Made (rotH b id bx l (node b' id' bx' al' d' rl rr)) (fun k => k = b ∨ k = b') w) := by
 obtain ⟨al, d, hB⟩ := h.blk
 have hn := h.nodup
 simp only [blocks, List.nodup_cons, List.nodup_append, List.mem_cons, List.mem_append, not_or] at hn
 obtain ⟨⟨nbl, hbb, nbrl, nbrr⟩, nl, ⟨⟨nbrl', nbrr'⟩, nrl, nrr, nlr⟩, nx⟩ := hn
 have nbl' : b' ∉ blocks l := fun hx => nx _ hx _ (.inl rfl) rfl
 have hK2 := ((Keeps.refl (fun k => k = b ∨ k = b') w).setCell (p := ⟨b, 10, none⟩) ZA7 (.pointer (ptr rl))).setCell (p := ⟨b', 9, none⟩) ZA7 (.pointer (some ⟨b, 0, none⟩))
 have hB2 := (hB.set_ 10 (.pointer (ptr rl))).far (p := ⟨b', 9, none⟩) hbb (.pointer (some ⟨b, 0, none⟩))
 have hC2 := (h.isr.1.far (p := ⟨b, 10, none⟩) (Ne.symm hbb) (.pointer (ptr rl))).set_ 9 (.pointer (some ⟨b, 0, none⟩))
 have hrr2 := h.isr.2.2.keeps hK2 (by rintro x hx (rfl | rfl); exact nbrr hx; exact nbrr' hx)
 have hrl2 := h.isr.2.1.keeps hK2 (by rintro x hx (rfl | rfl); exact nbrl hx; exact nbrl' hx)
 have hl2 := h.isl.keeps hK2 (by rintro x hx (rfl | rfl); exact nbl hx; exact nbl' hx)
 have hd := h.dr
 obtain ⟨f1, f2, f3, f4, f5⟩ := h.fr
 have hdl : dp rl ≤ 900 ∧ dp rr ≤ 900 := by
  simp only [dp_node] at hd; omega
 have hdr := h.dl
 have cB := hB.cell
 have cC := h.isr.1.cell
 have fB := hB.frozen
 have fC := h.isr.1.frozen
 unfold ncells at cB cC
 rw [show ptr (node b' id' bx' al' d' rl rr) = some ⟨b', 0, none⟩ from rfl] at cB
 have S1 := Lib.hid (summed_any b id bx al d l rl _ hB2 hl2 hrl2 nbl nbrl h.fl f4 h.right Z8 Z8)
 have hS2 : ∀ w3, Summed b id bx l rl ((w.setCell ⟨b, 10, none⟩ (.pointer (ptr rl))).setCell ⟨b', 9, none⟩ (.pointer (some ⟨b, 0, none⟩))) (.returned (.pointer (some ⟨b, 0, none⟩))) w3 →
  Calls Tryz.prog 164 #[.pointer (some ⟨b', 0, none⟩)] w3 (Made (rotH b id bx l (node b' id' bx' al' d' rl rr)) (fun k => k = b ∨ k = b') w) := by
  rintro w3 ⟨_, hk3, hB3⟩
  have hM : IsT w3 (mk' b id bx l rl) := ⟨hB3, hl2.keeps hk3 (fun x hx e => nbl (e ▸ hx)), hrl2.keeps hk3 (fun x hx e => nbrl (e ▸ hx))⟩
  have hR3 := hrr2.keeps hk3 (fun x hx e => nbrr (e ▸ hx))
  refine (summed_any b' id' bx' al' d' (mk' b id bx l rl) rr w3 (hC2.keeps hk3 (Ne.symm hbb)) hM hR3 (by simp only [blocks_mk, List.mem_cons, List.mem_append, not_or]; exact ⟨Ne.symm hbb, nbl', nbrl'⟩) nbrr' (mk_fine h.right h.fl f4) f5 f1 (by simp only [dp_mk]; omega) Z8).mono ?_
  rintro e w4 ⟨rfl, hk4, hB4⟩
  exact ⟨rfl, (hK2.trans (hk3.mono (fun k _ e => .inl e))).trans (hk4.mono (fun k _ e => .inr e)), hB4, hM.keeps hk4 (by
   simp only [blocks_mk, List.mem_cons, List.mem_append]
   rintro x (rfl | hx | hx) e
   ·exact hbb e
   ·exact nbl' (e ▸ hx)
   ·exact nbrl' (e ▸ hx)), hR3.keeps hk4 (fun x hx e => nbrr' (e ▸ hx))⟩
 have HS2 := Lib.hid hS2
 clear hS2 hB h hC2 hK2 hl2 hrl2 hrr2 nx nlr nrr nrl nl
 go_enter Tryz.func167, Tryz.ntmps167
 go_wp2_with (first
  | (go_at_call 164; (with_reducible refine S1.out.mono ?_); rintro e w3 ⟨rfl, h3⟩; have HS3 := Lib.hid (HS2.out w3 ⟨rfl, h3⟩); clear h3)
  | (go_at_call 164; (with_reducible refine HS3.out.mono ?_); rintro e w4 ⟨rfl, hk4, hT4⟩))
 go_ret
 exact ⟨rfl, hk4, hT4⟩
end Tree
open Go.RowKit
namespace Tree
open Mem BT
theorem rotL_fine {b id : Nat} {bx : Bx} {l r : BT} (hb : bx.right = true) (hl : Fine l) (hr : Fine r) : Fine (rotL b id bx l r) := by
 cases l with
 | nil => exact mk_fine hb hl hr
 | node => exact mk_fine hl.1 hl.2.2.2.1 (mk_fine hb hl.2.2.2.2 hr)
theorem rotH_fine {b id : Nat} {bx : Bx} {l r : BT} (hb : bx.right = true) (hl : Fine l) (hr : Fine r) : Fine (rotH b id bx l r) := by
 cases r with
 | nil => exact mk_fine hb hl hr
 | node => exact mk_fine hr.1 (mk_fine hb hl hr.2.2.2.1) hr.2.2.2.2
theorem dp_rotL {b id : Nat} {bx : Bx} {l r : BT} (hl : Fine l) (hr : Fine r) : dp (rotL b id bx l r) ≤ 2 + max (dp l) (dp r) := by
 cases l with
 | nil => simp only [rotL, dp_mk, dp_nil]; omega
 | node =>
  have := fine_dp hl.2.2.2.1; have := fine_dp hl.2.2.2.2
  have h := hl.2.2.1
  simp only [rotL, dp_mk, dp_node]; omega
theorem dp_rotH {b id : Nat} {bx : Bx} {l r : BT} (hl : Fine l) (hr : Fine r) : dp (rotH b id bx l r) ≤ 2 + max (dp l) (dp r) := by
 cases r with
 | nil => simp only [rotH, dp_mk, dp_nil]; omega
 | node =>
  have := fine_dp hr.2.2.2.1; have := fine_dp hr.2.2.2.2
  have h := hr.2.2.1
  simp only [rotH, dp_mk, dp_node]; omega
theorem rotL_ne (b id : Nat) (bx : Bx) (l r : BT) : rotL b id bx l r ≠ nil := by
 cases l <;> simp [rotL, mk']
theorem rotH_ne (b id : Nat) (bx : Bx) (l r : BT) : rotH b id bx l r ≠ nil := by
 cases r <;> simp [rotH, mk']
theorem Made.mono {t : BT} {S T : Nat → Prop} {w w' : World} {e : Ending} (h : Made t S w e w') (hs : ∀ k, S k → T k) : Made t T w e w' := ⟨h.1, h.2.1.mono (fun k _ => hs k), h.2.2⟩
theorem Made.after {t : BT} {S T : Nat → Prop} {w0 w w' : World} {e : Ending} (h : Made t S w e w') (hk : Keeps T w0 w) (hs : ∀ k, S k → T k) : Made t T w0 e w' := ⟨h.1, hk.trans (h.2.1.mono (fun k _ => hs k)), h.2.2⟩
theorem upLow_n (b id : Nat) (bx : Bx) (l r : BT) (w : World) (h : Nd 900 w b id bx l r) (hl : l ≠ nil) :
 Calls Tryz.prog 168 #[.pointer (some ⟨b, 0, none⟩)] w (Made (rotL b id bx l r) (fun k => k ∈ b :: (blocks l ++ blocks r)) w) := by
 cases l with
 | nil => exact (hl rfl).elim
 | node b' id' bx' al' d' ll lr =>
  refine (upLow_t b id bx b' id' bx' al' d' ll lr r w h).mono fun e w' hm => hm.mono ?_
  rintro k (rfl | rfl) <;> simp [blocks]
theorem upHigh_n (b id : Nat) (bx : Bx) (l r : BT) (w : World) (h : Nd 900 w b id bx l r) (hl : r ≠ nil) :
 Calls Tryz.prog 167 #[.pointer (some ⟨b, 0, none⟩)] w (Made (rotH b id bx l r) (fun k => k ∈ b :: (blocks l ++ blocks r)) w) := by
 cases r with
 | nil => exact (hl rfl).elim
 | node b' id' bx' al' d' ll lr =>
  refine (upHigh_t b id bx b' id' bx' al' d' l ll lr w h).mono fun e w' hm => hm.mono ?_
  rintro k (rfl | rfl) <;> simp [blocks]
theorem Nd.mono {M N : Int} {w : World} {b id : Nat} {bx : Bx} {l r : BT} (h : Nd M w b id bx l r) (hm : M ≤ N) : Nd N w b id bx l r :=
 ⟨h.blk, h.isl, h.isr, h.nodup, h.fl, h.fr, h.right, Int.le_trans h.dl hm, Int.le_trans h.dr hm⟩
theorem Nd.kd {M : Int} {w w' : World} {b id : Nat} {bx : Bx} {l r : BT} (h : Nd M w b id bx l r) (k : Keeps (fun _ => False) w w') : Nd M w' b id bx l r := by
 obtain ⟨al, d, hB⟩ := h.blk
 exact ⟨⟨al, d, hB.keeps k (fun h => h)⟩, h.isl.kd k, h.isr.kd k, h.nodup, h.fl, h.fr, h.right, h.dl, h.dr⟩
theorem Nd.setL {M N : Int} {w w1 : World} {b id : Nat} {bx : Bx} {l l1 r : BT} {S : Nat → Prop} (h : Nd M w b id bx l r) (hk : Keeps S w w1) (hs : ∀ k, S k → k ≠ b ∧ k ∉ blocks r) (h1 : IsT w1 l1) (hp : (b :: (blocks l1 ++ blocks r)).Nodup) (hf : Fine l1) (hd : dp l1 ≤ N) (hM : M ≤ N) :
 Nd N (w1.setCell ⟨b, 9, none⟩ (.pointer (ptr l1))) b id bx l1 r := by
 obtain ⟨al, d, hB⟩ := h.blk
 have hB1 := hB.keeps hk (fun e => (hs _ e).1 rfl)
 have k2 := (Keeps.refl (fun k => k = b) w1).setCell (p := ⟨b, 9, none⟩) ZA7 (.pointer (ptr l1))
 have hn := List.nodup_cons.1 hp
 exact ⟨⟨al, d, hB1.set_ 9 _⟩, h1.keeps k2 (fun x hx e => hn.1 (List.mem_append.2 (.inl (e ▸ hx)))), (h.isr.keeps hk (fun x hx e => (hs _ e).2 hx)).keeps k2 (fun x hx e => h.br (e ▸ hx)), hp, hf, h.fr, h.right, hd, Int.le_trans h.dr hM⟩
theorem Nd.setR {M N : Int} {w w1 : World} {b id : Nat} {bx : Bx} {l r1 r : BT} {S : Nat → Prop} (h : Nd M w b id bx l r) (hk : Keeps S w w1) (hs : ∀ k, S k → k ≠ b ∧ k ∉ blocks l) (h1 : IsT w1 r1) (hp : (b :: (blocks l ++ blocks r1)).Nodup) (hf : Fine r1) (hd : dp r1 ≤ N) (hM : M ≤ N) :
 Nd N (w1.setCell ⟨b, 10, none⟩ (.pointer (ptr r1))) b id bx l r1 := by
 obtain ⟨al, d, hB⟩ := h.blk
 have hB1 := hB.keeps hk (fun e => (hs _ e).1 rfl)
 have k2 := (Keeps.refl (fun k => k = b) w1).setCell (p := ⟨b, 10, none⟩) ZA7 (.pointer (ptr r1))
 have hn := List.nodup_cons.1 hp
 exact ⟨⟨al, d, hB1.set_ 10 _⟩, (h.isl.keeps hk (fun x hx e => (hs _ e).2 hx)).keeps k2 (fun x hx e => h.bl (e ▸ hx)), h1.keeps k2 (fun x hx e => hn.1 (List.mem_append.2 (.inr (e ▸ hx)))), hp, h.fl, hf, h.right, Int.le_trans h.dl hM, hd⟩
theorem Nd.left {M : Int} {w : World} {b id : Nat} {bx : Bx} {r : BT} {b' id' : Nat} {bx' al' : Bx} {d' : Int} {ll lr : BT} (h : Nd M w b id bx (node b' id' bx' al' d' ll lr) r) : Nd M w b' id' bx' ll lr := by
 have hd := h.dl
 have hn := (List.nodup_append.1 (List.nodup_cons.1 h.nodup).2).1
 have f := h.fl
 have e := f.2.2.1
 have := fine_dp f.2.2.2.1; have := fine_dp f.2.2.2.2
 simp only [dp_node] at hd
 exact ⟨⟨al', d', h.isl.1⟩, h.isl.2.1, h.isl.2.2, hn, f.2.2.2.1, f.2.2.2.2, f.1, Z8, Z8⟩
theorem Nd.rite {M : Int} {w : World} {b id : Nat} {bx : Bx} {l : BT} {b' id' : Nat} {bx' al' : Bx} {d' : Int} {rl rr : BT} (h : Nd M w b id bx l (node b' id' bx' al' d' rl rr)) : Nd M w b' id' bx' rl rr := by
 have hd := h.dr
 have hn := (List.nodup_append.1 (List.nodup_cons.1 h.nodup).2).2.1
 have f := h.fr
 have e := f.2.2.1
 have := fine_dp f.2.2.2.1; have := fine_dp f.2.2.2.2
 simp only [dp_node] at hd
 exact ⟨⟨al', d', h.isr.1⟩, h.isr.2.1, h.isr.2.2, hn, f.2.2.2.1, f.2.2.2.2, f.1, Z8, Z8⟩
theorem Nd.far {M : Int} {w : World} {b id : Nat} {bx : Bx} {l r : BT} (h : Nd M w b id bx l r) : ∀ k ∈ blocks l, k ≠ b ∧ k ∉ blocks r := fun k hk =>
 ⟨fun e => h.bl (e ▸ hk), fun hx => (List.nodup_append.1 (List.nodup_cons.1 h.nodup).2).2.2 k hk k hx rfl⟩
theorem Nd.farR {M : Int} {w : World} {b id : Nat} {bx : Bx} {l r : BT} (h : Nd M w b id bx l r) : ∀ k ∈ blocks r, k ≠ b ∧ k ∉ blocks l := fun k hk =>
 ⟨fun e => h.br (e ▸ hk), fun hx => (List.nodup_append.1 (List.nodup_cons.1 h.nodup).2).2.2 k hx k hk rfl⟩
theorem Nd.permL {M : Int} {w : World} {b id : Nat} {bx : Bx} {l r l1 : BT} (h : Nd M w b id bx l r) (hp : (blocks l1).Perm (blocks l)) : (b :: (blocks l1 ++ blocks r)).Nodup :=
 (((hp.append_right (blocks r)).cons b).nodup_iff).2 h.nodup
theorem Nd.permR {M : Int} {w : World} {b id : Nat} {bx : Bx} {l r r1 : BT} (h : Nd M w b id bx l r) (hp : (blocks r1).Perm (blocks r)) : (b :: (blocks l ++ blocks r1)).Nodup :=
 (((hp.append_left (blocks l)).cons b).nodup_iff).2 h.nodup
end Tree
end Go.Proofs.YtdbpfbokfmpgcaaGreat
