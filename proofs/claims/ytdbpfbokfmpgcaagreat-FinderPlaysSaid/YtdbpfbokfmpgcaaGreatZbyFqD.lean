/-
FqD: a step: the index and the document's list side by side. (Its walks are printed by wip/gen_fqd.py.)
-/
import Derived.Test.YtdbpfbokfmpgcaaGreatZbvFqCFqP
import Derived.Test.YtdbpfbokfmpgcaaGreatZbxFpOFqC2
import Derived.Test.YtdbpfbokfmpgcaaGreatZbsFiV
set_option linter.unusedVariables false
set_option linter.unusedSimpArgs false
set_option linter.ambiguousOpen false
set_option maxHeartbeats 16000000
set_option maxRecDepth 100000
attribute [local go_sem] Go.Oper.semAt_some
namespace Go.Proofs.YtdbpfbokfmpgcaaGreat
theorem ZAG {p : Prop} (h : p := by rw [hw0, hB5]; exact Blk.new w 41 [.int .i64 x.do_, .int .u32 (x.id : Int), .int .i32 x.b.x0, .int .i32 x.b.y0, .int .i32 x.b.x1, .int .i32 x.b.y1, .int .i32 x.px, .int .i32 x.py, .int .i32 x.qx, .int .i32 x.qy, .int .i64 x.stop]) : p := h
theorem ZAR {p : Prop} (h : p := by rw [hB5]; rintro (hh | hh); exact Nat.lt_irrefl _ (h.fd.inb _ hh); exact Nat.lt_irrefl _ (hh ▸ h.lt)) : p := h
theorem ZAS {p : Prop} (h : p := by rw [hw0]; (repeat (first | exact Keeps.refl _ _ | refine Keeps.alloc ?_ _ | refine Keeps.drew ?_))) : p := h
theorem ZAi {p : Prop} (h : p := by (first | exact HK6.out | exact HK6.out.drew | exact HK6.out.drew.drew)) : p := h
theorem ZAj {p : Prop} (h : p := by (first | exact HK2.out | exact HK2.out.drew | exact HK2.out.drew.drew)) : p := h
theorem ZAk {p : Prop} (h : p := by (first | exact HK1.out | exact HK1.out.drew | exact HK1.out.drew.drew)) : p := h
theorem ZAy {p : Prop} (h : p := by (first | exact Keeps.refl _ _ | (repeat (first | exact Keeps.refl _ _ | refine Keeps.alloc ?_ _ | refine Keeps.drew ?_)))) : p := h
open Go.RowKit Go.Shelf
namespace Fq
open Mem Gr Gs Fi
open Gx (insB Rise)
theorem done_put {w : World} {v : Value} {F : Nat → Prop} {L : List (Nat × Bx)} {R : Nat} {Lr : List (Nat × Bx)} (h : Pr w v F L R Lr) (x : Stp) (hid : x.id < 4294967296) (hk : x.do_ = 0) : Calls Tryz.prog 10 #[v, .pointer (some ⟨R, 0, none⟩), .agg #[.int .i64 x.do_, .int .u32 (x.id : Int), .int .i32 x.b.x0, .int .i32 x.b.y0, .int .i32 x.b.x1, .int .i32 x.b.y1, .int .i32 x.px, .int .i32 x.py, .int .i32 x.qx, .int .i32 x.qy, .int .i64 x.stop]] w fun e w' => e = .returned (.bool true) ∧ StepD v R F w w' := by
 have e0 : (x.do_ == 0) = true := by rw [hk]; rfl
 clear hk
 obtain ⟨t, B, fP, fD, hC⟩ := h.fd.chg h.ok
 have en := hC.enP
 have HM := Lib.hid hC.mP
 have HP := Lib.hid (fun W (k : Keeps (fun _ => False) w W) => hC.aP W k x.id x.b hid)
 have hval := hC.val
 have HH := Lib.hid h
 obtain ⟨ra, rcp, hrf, hrd⟩ := h.rf
 have HR := Lib.hid (fun W W' (h1 : RF W R ra rcp Lr) (k : Keeps (fun _ => False) W W') => rput_t (h1.kd k) h.rise h.mem h.ok x.id x.b)
 obtain ⟨z, hz⟩ := ZE ((putF L x.id x.b).1)
 unfold DidF at HP
 simp only [← hz] at HP HR
 have HD := Lib.hid (And.intro hrf hrd)
 subst hval
 go_enter Tryz.func10, Tryz.ntmps10
 go_wp2
 obtain ⟨B5, hB5⟩ := ZE w.heap.size
 obtain ⟨w0, hw0⟩ := ZE (w.alloc (.cells #[.int .i64 x.do_, .int .u32 (x.id : Int), .int .i32 x.b.x0, .int .i32 x.b.y0, .int .i32 x.b.x1, .int .i32 x.b.y1, .int .i32 x.px, .int .i32 x.py, .int .i32 x.qx, .int .i32 x.qy, .int .i64 x.stop] 41))
 have HK0 := Lib.hid (show Keeps (fun _ => False) w w0 from ZAS)
 have HB5 := Lib.hid (show Blk w0 B5 41 [.int .i64 x.do_, .int .u32 (x.id : Int), .int .i32 x.b.x0, .int .i32 x.b.y0, .int .i32 x.b.x1, .int .i32 x.b.y1, .int .i32 x.px, .int .i32 x.py, .int .i32 x.qx, .int .i32 x.qy, .int .i64 x.stop] from ZAG)
 have HN5 := Lib.hid (show ¬ (F B5 ∨ B5 = R) from ZAR)
 (try rw [← hw0])
 (try rw [← hB5])
 clear hw0 hB5
 have HSN := Lib.hid (show ∀ W', Keeps (fun k => F k ∨ k = R) w0 W' → (∀ i : Nat, W'.cell? ⟨B5, i, none⟩ = ([.int .i64 x.do_, .int .u32 (x.id : Int), .int .i32 x.b.x0, .int .i32 x.b.y0, .int .i32 x.b.x1, .int .i32 x.b.y1, .int .i32 x.px, .int .i32 x.py, .int .i32 x.qx, .int .i32 x.qy, .int .i64 x.stop] : List Value)[i]?) from fun W' hk => (HB5.out.keeps hk HN5.out).cell)
 have HI := Lib.hid hid
 clear h hC hrf hrd hz e0 hid
 rename_i Kx hKx
 refine wp_mono (Q := Exit.then Kx (fun _ _ _ => False)) ?_ (fun e a w h => ZAN)
 refine wp_region_held_drew (S := fun W => (∀ i : Nat, W.cell? ⟨B5, i, none⟩ = ([.int .i64 x.do_, .int .u32 (x.id : Int), .int .i32 x.b.x0, .int .i32 x.b.y0, .int .i32 x.b.x1, .int .i32 x.b.y1, .int .i32 x.px, .int .i32 x.py, .int .i32 x.qx, .int .i32 x.qy, .int .i64 x.stop] : List Value)[i]?)) ZAB (HSN.out _ (kf ZAy)) (fun hSx => ?_)
 refine tK 0 hSx ?_
 refine tK 1 hSx ?_
 refine tK 2 hSx ?_
 refine tK 3 hSx ?_
 refine tK 4 hSx ?_
 refine tK 6 hSx ?_
 refine tK 7 hSx ?_
 refine tK 8 hSx ?_
 refine tK 9 hSx ?_
 refine tK 10 hSx ?_
 refine anyH_one 5 ZAB rfl ZAP (fun K hK => ?_)
 have hm := HM.out
 go_simp
 (with_reducible refine (HP.out _ (HK0.out.trans Z4)).mono ?_)
 rintro e w1 ⟨rfl, F', hf, hfd⟩
 have HK1 := Lib.hid (show Keeps F w0 w1 from Keeps.then (S := F) (T := F) (kf Z4) hf.1 (fun _ _ h => h))
 have HF1 := Lib.hid (And.intro hfd (show ∀ k, F' k → F k ∨ w0.heap.size ≤ k from fun k hk => (hf.2 k hk).imp_right (fun h => by simpa using h)))
 clear hf hfd hm
 have hS1 := HSN.out _ (HK1.out.mono (fun _ _ h => .inl h))
 refine hK _ _ hS1 ?_
 clear hK hSx
 try simp only [y0, y1, y2, y3, y4, y5, y6]
 refine anyH_one 11 ZAB rfl ZAP (fun K hK => ?_)
 have hr1 := (HD.out.1.kd HK0.out).keeps HK1.out HH.out.off (fun k hk hF => HD.out.2 k hF hk)
 go_simp
 (with_reducible refine (HR.out _ _ hr1 Z4).mono ?_)
 rintro e w2 ⟨rfl, Lr', hrise, hmem, hdid⟩
 have HT := Lib.hid (HH.out.turn HK0.out HD.out.1 HD.out.2 HK1.out HF1.out.1 HF1.out.2 hr1 (show Keeps (fun _ => False) w1 _ from Z4) hrise hmem hdid (ok_put HH.out.ok x.id x.b HI.out))
 clear hr1 hrise hmem hdid
 have hS2 := HSN.out _ HT.out.2
 refine hK _ _ hS2 ?_
 clear hK hS1
 try simp only [y0, y1, y2, y3, y4, y5, y6]
 refine tK 12 hS2 ?_
 refine tK 13 hS2 ?_
 refine wpAnyH_done ZAB ?_ _
 refine hKx _ _ ?_
 clear hKx hS2
 go_wp2
 go_ret
 exact ⟨rfl, HT.out.1⟩
theorem done_del {w : World} {v : Value} {F : Nat → Prop} {L : List (Nat × Bx)} {R : Nat} {Lr : List (Nat × Bx)} (h : Pr w v F L R Lr) (x : Stp) (hid : x.id < 4294967296) (hk : x.do_ = 1) : Calls Tryz.prog 10 #[v, .pointer (some ⟨R, 0, none⟩), .agg #[.int .i64 x.do_, .int .u32 (x.id : Int), .int .i32 x.b.x0, .int .i32 x.b.y0, .int .i32 x.b.x1, .int .i32 x.b.y1, .int .i32 x.px, .int .i32 x.py, .int .i32 x.qx, .int .i32 x.qy, .int .i64 x.stop]] w fun e w' => e = .returned (.bool true) ∧ StepD v R F w w' := by
 have e0 : (x.do_ == 0) = false := by rw [hk]; rfl
 have e1 : (x.do_ == 1) = true := by rw [hk]; rfl
 clear hk
 obtain ⟨t, B, fP, fD, hC⟩ := h.fd.chg h.ok
 have en := hC.enD
 have HM := Lib.hid hC.mD
 have HP := Lib.hid (fun W (k : Keeps (fun _ => False) w W) => hC.aD W k x.id hid)
 have hval := hC.val
 have HH := Lib.hid h
 obtain ⟨ra, rcp, hrf, hrd⟩ := h.rf
 have HR := Lib.hid (fun W W' (h1 : RF W R ra rcp Lr) (k : Keeps (fun _ => False) W W') => rdel_t (h1.kd k) h.rise h.mem h.ok x.id)
 obtain ⟨z, hz⟩ := ZE ((delF L x.id).1)
 unfold DidF at HP
 simp only [← hz] at HP HR
 have HD := Lib.hid (And.intro hrf hrd)
 subst hval
 go_enter Tryz.func10, Tryz.ntmps10
 go_wp2
 obtain ⟨B5, hB5⟩ := ZE w.heap.size
 obtain ⟨w0, hw0⟩ := ZE (w.alloc (.cells #[.int .i64 x.do_, .int .u32 (x.id : Int), .int .i32 x.b.x0, .int .i32 x.b.y0, .int .i32 x.b.x1, .int .i32 x.b.y1, .int .i32 x.px, .int .i32 x.py, .int .i32 x.qx, .int .i32 x.qy, .int .i64 x.stop] 41))
 have HK0 := Lib.hid (show Keeps (fun _ => False) w w0 from ZAS)
 have HB5 := Lib.hid (show Blk w0 B5 41 [.int .i64 x.do_, .int .u32 (x.id : Int), .int .i32 x.b.x0, .int .i32 x.b.y0, .int .i32 x.b.x1, .int .i32 x.b.y1, .int .i32 x.px, .int .i32 x.py, .int .i32 x.qx, .int .i32 x.qy, .int .i64 x.stop] from ZAG)
 have HN5 := Lib.hid (show ¬ (F B5 ∨ B5 = R) from ZAR)
 (try rw [← hw0])
 (try rw [← hB5])
 clear hw0 hB5
 have HSN := Lib.hid (show ∀ W', Keeps (fun k => F k ∨ k = R) w0 W' → (∀ i : Nat, W'.cell? ⟨B5, i, none⟩ = ([.int .i64 x.do_, .int .u32 (x.id : Int), .int .i32 x.b.x0, .int .i32 x.b.y0, .int .i32 x.b.x1, .int .i32 x.b.y1, .int .i32 x.px, .int .i32 x.py, .int .i32 x.qx, .int .i32 x.qy, .int .i64 x.stop] : List Value)[i]?) from fun W' hk => (HB5.out.keeps hk HN5.out).cell)
 have HI := Lib.hid hid
 clear h hC hrf hrd hz e0 e1 hid
 rename_i Kx hKx
 refine wp_mono (Q := Exit.then Kx (fun _ _ _ => False)) ?_ (fun e a w h => ZAN)
 refine wp_region_held_drew (S := fun W => (∀ i : Nat, W.cell? ⟨B5, i, none⟩ = ([.int .i64 x.do_, .int .u32 (x.id : Int), .int .i32 x.b.x0, .int .i32 x.b.y0, .int .i32 x.b.x1, .int .i32 x.b.y1, .int .i32 x.px, .int .i32 x.py, .int .i32 x.qx, .int .i32 x.qy, .int .i64 x.stop] : List Value)[i]?)) ZAB (HSN.out _ (kf ZAy)) (fun hSx => ?_)
 refine tK 0 hSx ?_
 refine tK 1 hSx ?_
 refine tK 2 hSx ?_
 refine tK 4 hSx ?_
 refine tK 5 hSx ?_
 refine tK 6 hSx ?_
 refine anyH_one 3 ZAB rfl ZAP (fun K hK => ?_)
 have hm := HM.out
 go_simp
 (with_reducible refine (HP.out _ (HK0.out.trans Z4)).mono ?_)
 rintro e w1 ⟨rfl, F', hf, hfd⟩
 have HK1 := Lib.hid (show Keeps F w0 w1 from Keeps.then (S := F) (T := F) (kf Z4) hf.1 (fun _ _ h => h))
 have HF1 := Lib.hid (And.intro hfd (show ∀ k, F' k → F k ∨ w0.heap.size ≤ k from fun k hk => (hf.2 k hk).imp_right (fun h => by simpa using h)))
 clear hf hfd hm
 have hS1 := HSN.out _ (HK1.out.mono (fun _ _ h => .inl h))
 refine hK _ _ hS1 ?_
 clear hK hSx
 try simp only [y0, y1, y2, y3, y4, y5, y6]
 refine anyH_one 7 ZAB rfl ZAP (fun K hK => ?_)
 have hr1 := (HD.out.1.kd HK0.out).keeps HK1.out HH.out.off (fun k hk hF => HD.out.2 k hF hk)
 go_simp
 (with_reducible refine (HR.out _ _ hr1 Z4).mono ?_)
 rintro e w2 ⟨rfl, Lr', hrise, hmem, hdid⟩
 have HT := Lib.hid (HH.out.turn HK0.out HD.out.1 HD.out.2 HK1.out HF1.out.1 HF1.out.2 hr1 (show Keeps (fun _ => False) w1 _ from Z4) hrise hmem hdid (ok_del HH.out.ok x.id))
 clear hr1 hrise hmem hdid
 have hS2 := HSN.out _ HT.out.2
 refine hK _ _ hS2 ?_
 clear hK hS1
 try simp only [y0, y1, y2, y3, y4, y5, y6]
 refine tK 8 hS2 ?_
 refine tK 9 hS2 ?_
 refine wpAnyH_done ZAB ?_ _
 refine hKx _ _ ?_
 clear hKx hS2
 go_wp2
 go_ret
 exact ⟨rfl, HT.out.1⟩
theorem done_at {w : World} {v : Value} {F : Nat → Prop} {L : List (Nat × Bx)} {R : Nat} {Lr : List (Nat × Bx)} (h : Pr w v F L R Lr) (x : Stp) (hid : x.id < 4294967296) (hk : x.do_ = 2) : Calls Tryz.prog 10 #[v, .pointer (some ⟨R, 0, none⟩), .agg #[.int .i64 x.do_, .int .u32 (x.id : Int), .int .i32 x.b.x0, .int .i32 x.b.y0, .int .i32 x.b.x1, .int .i32 x.b.y1, .int .i32 x.px, .int .i32 x.py, .int .i32 x.qx, .int .i32 x.qy, .int .i64 x.stop]] w fun e w' => e = .returned (.bool true) ∧ StepD v R F w w' := by
 have e0 : (x.do_ == 0) = false := by rw [hk]; rfl
 have e1 : (x.do_ == 1) = false := by rw [hk]; rfl
 have e2 : (x.do_ == 2) = true := by rw [hk]; rfl
 clear hk
 obtain ⟨t, B, fA, fC, fL, rL, hQ⟩ := h.fd.asks h.ok
 have en := hQ.enA
 have hm := hQ.mA
 have HA := Lib.hid (fun W (k : Keeps (fun _ => False) w W) => hQ.aA W k x.px x.py)
 have hval := hQ.val
 have HH := Lib.hid h
 obtain ⟨ra, rcp, hrf, hrd⟩ := h.rf
 obtain ⟨V0, hV0⟩ := ZE (wl (fun p => decide (coversP x.px x.py p.2)) Lr)
 have hans : Ans L (coversP x.px x.py) V0 := by rw [hV0]; exact ans_wl h.rise h.mem _ (fun p _ => ZA7)
 have HR := Lib.hid (fun W (k : Keeps (fun _ => False) w W) => at_D W R ra rcp Lr (hrf.kd k) (by have := h.len; have := h.ok.len; omega) x.px x.py)
 rw [← hV0] at HR
 have HL := Lib.hid (show V0.length ≤ 65536 from ans_small h.ok hans)
 have HAn := Lib.hid hans
 subst hval
 clear hQ hans hV0
 go_enter Tryz.func10, Tryz.ntmps10
 go_wp2_with ((with_reducible refine (HA.out _ Z4).mono ?_); rintro e w1 ⟨VB, V, rfl, k1, hv, ha⟩; have HVV := Lib.hid (And.intro k1 (And.intro hv (ha.one HAn.out))); clear k1 hv ha)
 obtain ⟨k1, hv, hVV⟩ := HVV.out
 subst hVV
 obtain ⟨B5, hB5⟩ := ZE w.heap.size
 obtain ⟨w0, hw0⟩ := ZE (w.alloc (.cells #[.int .i64 x.do_, .int .u32 (x.id : Int), .int .i32 x.b.x0, .int .i32 x.b.y0, .int .i32 x.b.x1, .int .i32 x.b.y1, .int .i32 x.px, .int .i32 x.py, .int .i32 x.qx, .int .i32 x.qy, .int .i64 x.stop] 41))
 have HK0 := Lib.hid (show Keeps (fun _ => False) w w0 from ZAS)
 have HB5 := Lib.hid (show Blk w0 B5 41 [.int .i64 x.do_, .int .u32 (x.id : Int), .int .i32 x.b.x0, .int .i32 x.b.y0, .int .i32 x.b.x1, .int .i32 x.b.y1, .int .i32 x.px, .int .i32 x.py, .int .i32 x.qx, .int .i32 x.qy, .int .i64 x.stop] from ZAG)
 have HN5 := Lib.hid (show ¬ (F B5 ∨ B5 = R) from ZAR)
 (try rw [← hw0])
 (try rw [← hB5])
 have HKa := Lib.hid (show Keeps (fun _ => False) w0 w1 from by rw [hw0]; exact k1)
 clear hw0 hB5
 have HSN := Lib.hid (show ∀ W', Keeps (fun k => F k ∨ k = R) w0 W' → (∀ i : Nat, W'.cell? ⟨B5, i, none⟩ = ([.int .i64 x.do_, .int .u32 (x.id : Int), .int .i32 x.b.x0, .int .i32 x.b.y0, .int .i32 x.b.x1, .int .i32 x.b.y1, .int .i32 x.px, .int .i32 x.py, .int .i32 x.qx, .int .i32 x.qy, .int .i64 x.stop] : List Value)[i]?) from fun W' hk => (HB5.out.keeps hk HN5.out).cell)
 have HVa := Lib.hid hv
 have HRr := Lib.hid (fun W (k : Keeps (fun _ => False) w0 W) => HR.out W (HK0.out.trans k))
 clear h hrf hrd hv k1 hm en hid e0 e1 e2
 have HK1 := HKa
 rename_i Kx hKx
 refine wp_mono (Q := Exit.then Kx (fun _ _ _ => False)) ?_ (fun e a w h => ZAN)
 refine wp_region_held_drew (S := fun W => (∀ i : Nat, W.cell? ⟨B5, i, none⟩ = ([.int .i64 x.do_, .int .u32 (x.id : Int), .int .i32 x.b.x0, .int .i32 x.b.y0, .int .i32 x.b.x1, .int .i32 x.b.y1, .int .i32 x.px, .int .i32 x.py, .int .i32 x.qx, .int .i32 x.qy, .int .i64 x.stop] : List Value)[i]?)) ZAB (HSN.out _ (kf ZAk)) (fun hSx => ?_)
 refine tK 0 hSx ?_
 refine tK 1 hSx ?_
 refine tK 2 hSx ?_
 refine tK 4 hSx ?_
 refine tK 5 hSx ?_
 refine tK 6 hSx ?_
 refine tK 8 hSx ?_
 refine tK 9 hSx ?_
 refine anyH_one 3 ZAB rfl ZAP (fun K hK => ?_)
 go_simp
 (with_reducible refine (told_st (vals_kd HVa.out Z4) HL.out x.stop).mono ?_)
 rintro e w2 ⟨ua, rfl, hu, k2⟩
 have HK2 := Lib.hid (show Keeps (fun _ => False) w0 w2 from Keeps.trans ZAk k2)
 have HVa := Lib.hid (vals_kd HVa.out (Keeps.trans Z4 k2))
 have HUa := Lib.hid hu
 clear hu
 clear k2
 have hS2 := HSN.out _ (kf HK2.out)
 refine hK _ _ hS2 ?_
 clear hK hSx
 try simp only [y0, y1, y2, y3, y4, y5, y6]
 refine anyH_one 7 ZAB rfl ZAP (fun K hK => ?_)
 go_simp
 (with_reducible refine (HRr.out _ ZAj).mono ?_)
 rintro e w3 ⟨ob, cb, rfl, k3, ho⟩
 have HK3 := Lib.hid (show Keeps (fun _ => False) w0 w3 from Keeps.trans ZAj k3)
 have HUa := Lib.hid (U32s_kd HUa.out (Keeps.trans Z4 k3))
 have HVa := Lib.hid (vals_kd HVa.out (Keeps.trans Z4 k3))
 have HOb := Lib.hid ho
 clear ho
 clear k3
 have hS3 := HSN.out _ (kf HK3.out)
 refine hK _ _ hS3 ?_
 clear hK hS2
 try simp only [y0, y1, y2, y3, y4, y5, y6]
 refine anyH_one 10 ZAB rfl ZAP (fun K hK => ?_)
 go_simp
 (with_reducible refine (first_k HOb.out HL.out x.stop).mono ?_)
 rintro e w4 ⟨ub, rfl, hu, k4⟩
 have HK4 := Lib.hid (show Keeps (fun _ => False) w0 w4 from Keeps.trans (by (first | exact HK3.out | exact HK3.out.drew | exact HK3.out.drew.drew)) k4)
 have HUa := Lib.hid (U32s_kd HUa.out (Keeps.trans Z4 k4))
 have HOb := Lib.hid (owns_keeps HOb.out (Keeps.trans Z4 k4) (fun _ _ h => h))
 have HVa := Lib.hid (vals_kd HVa.out (Keeps.trans Z4 k4))
 have HUb := Lib.hid hu
 clear hu
 clear k4
 have hS4 := HSN.out _ (kf HK4.out)
 refine hK _ _ hS4 ?_
 clear hK hS3
 try simp only [y0, y1, y2, y3, y4, y5, y6]
 refine anyH_one 11 ZAB rfl ZAP (fun K hK => ?_)
 go_simp
 (with_reducible refine (same_ok (U32s_kd HUa.out Z4) (U32s_kd HUb.out Z4) (cut_le HL.out)).mono ?_)
 rintro e w5 ⟨rfl, k5⟩
 have HK5 := Lib.hid (show Keeps (fun _ => False) w0 w5 from Keeps.trans (by (first | exact HK4.out | exact HK4.out.drew | exact HK4.out.drew.drew)) k5)
 have HUa := Lib.hid (U32s_kd HUa.out (Keeps.trans Z4 k5))
 have HUb := Lib.hid (U32s_kd HUb.out (Keeps.trans Z4 k5))
 have HOb := Lib.hid (owns_keeps HOb.out (Keeps.trans Z4 k5) (fun _ _ h => h))
 have HVa := Lib.hid (vals_kd HVa.out (Keeps.trans Z4 k5))
 clear k5
 have hS5 := HSN.out _ (kf HK5.out)
 refine hK _ _ hS5 ?_
 clear hK hS4
 try simp only [y0, y1, y2, y3, y4, y5, y6]
 refine tK 12 hS5 ?_
 refine tK 13 hS5 ?_
 refine tK 15 hS5 ?_
 refine tK 16 hS5 ?_
 refine tK 17 hS5 ?_
 refine anyH_one 14 ZAB rfl ZAP (fun K hK => ?_)
 go_simp
 (with_reducible refine (told_0 (vals_kd HVa.out Z4) HL.out).mono ?_)
 rintro e w6 ⟨uc, rfl, hu, k6⟩
 have HK6 := Lib.hid (show Keeps (fun _ => False) w0 w6 from Keeps.trans (by (first | exact HK5.out | exact HK5.out.drew | exact HK5.out.drew.drew)) k6)
 have HUa := Lib.hid (U32s_kd HUa.out (Keeps.trans Z4 k6))
 have HUb := Lib.hid (U32s_kd HUb.out (Keeps.trans Z4 k6))
 have HOb := Lib.hid (owns_keeps HOb.out (Keeps.trans Z4 k6) (fun _ _ h => h))
 have HVa := Lib.hid (vals_kd HVa.out (Keeps.trans Z4 k6))
 have HUc := Lib.hid hu
 clear hu
 clear k6
 have hS6 := HSN.out _ (kf HK6.out)
 refine hK _ _ hS6 ?_
 clear hK hS5
 try simp only [y0, y1, y2, y3, y4, y5, y6]
 refine anyH_one 18 ZAB rfl ZAP (fun K hK => ?_)
 go_simp
 (with_reducible refine (HRr.out _ ZAi).mono ?_)
 rintro e w7 ⟨od, cd, rfl, k7, ho⟩
 have HK7 := Lib.hid (show Keeps (fun _ => False) w0 w7 from Keeps.trans ZAi k7)
 have HUa := Lib.hid (U32s_kd HUa.out (Keeps.trans Z4 k7))
 have HUb := Lib.hid (U32s_kd HUb.out (Keeps.trans Z4 k7))
 have HUc := Lib.hid (U32s_kd HUc.out (Keeps.trans Z4 k7))
 have HOb := Lib.hid (owns_keeps HOb.out (Keeps.trans Z4 k7) (fun _ _ h => h))
 have HVa := Lib.hid (vals_kd HVa.out (Keeps.trans Z4 k7))
 have HOd := Lib.hid ho
 clear ho
 clear k7
 have hS7 := HSN.out _ (kf HK7.out)
 refine hK _ _ hS7 ?_
 clear hK hS6
 try simp only [y0, y1, y2, y3, y4, y5, y6]
 refine anyH_one 19 ZAB rfl ZAP (fun K hK => ?_)
 go_simp
 (with_reducible refine (same_ok (U32s_kd HUc.out Z4) (U32s_kd (u32s_row HOd.out) Z4) HL.out).mono ?_)
 rintro e w8 ⟨rfl, k8⟩
 have HK8 := Lib.hid (show Keeps (fun _ => False) w0 w8 from Keeps.trans (by (first | exact HK7.out | exact HK7.out.drew | exact HK7.out.drew.drew)) k8)
 have HUa := Lib.hid (U32s_kd HUa.out (Keeps.trans Z4 k8))
 have HUb := Lib.hid (U32s_kd HUb.out (Keeps.trans Z4 k8))
 have HUc := Lib.hid (U32s_kd HUc.out (Keeps.trans Z4 k8))
 have HOb := Lib.hid (owns_keeps HOb.out (Keeps.trans Z4 k8) (fun _ _ h => h))
 have HOd := Lib.hid (owns_keeps HOd.out (Keeps.trans Z4 k8) (fun _ _ h => h))
 have HVa := Lib.hid (vals_kd HVa.out (Keeps.trans Z4 k8))
 clear k8
 have hS8 := HSN.out _ (kf HK8.out)
 refine hK _ _ hS8 ?_
 clear hK hS7
 try simp only [y0, y1, y2, y3, y4, y5, y6]
 refine tK 20 hS8 ?_
 refine tK 21 hS8 ?_
 refine wpAnyH_done ZAB ?_ _
 refine hKx _ _ ?_
 clear hKx hS8
 go_wp2
 go_ret
 exact ⟨rfl, HH.out.still (HK0.out.trans (by (first | exact HK8.out | exact HK8.out.drew | exact HK8.out.drew.drew)))⟩
theorem done_cr {w : World} {v : Value} {F : Nat → Prop} {L : List (Nat × Bx)} {R : Nat} {Lr : List (Nat × Bx)} (h : Pr w v F L R Lr) (x : Stp) (hid : x.id < 4294967296) (hk : x.do_ = 3) : Calls Tryz.prog 10 #[v, .pointer (some ⟨R, 0, none⟩), .agg #[.int .i64 x.do_, .int .u32 (x.id : Int), .int .i32 x.b.x0, .int .i32 x.b.y0, .int .i32 x.b.x1, .int .i32 x.b.y1, .int .i32 x.px, .int .i32 x.py, .int .i32 x.qx, .int .i32 x.qy, .int .i64 x.stop]] w fun e w' => e = .returned (.bool true) ∧ StepD v R F w w' := by
 have e0 : (x.do_ == 0) = false := by rw [hk]; rfl
 have e1 : (x.do_ == 1) = false := by rw [hk]; rfl
 have e2 : (x.do_ == 2) = false := by rw [hk]; rfl
 have e3 : (x.do_ == 3) = true := by rw [hk]; rfl
 clear hk
 obtain ⟨t, B, fA, fC, fL, rL, hQ⟩ := h.fd.asks h.ok
 have en := hQ.enC
 have hm := hQ.mC
 have HA := Lib.hid (fun W (k : Keeps (fun _ => False) w W) => hQ.aC W k x.px x.py x.qx x.qy)
 have hval := hQ.val
 have HH := Lib.hid h
 obtain ⟨ra, rcp, hrf, hrd⟩ := h.rf
 obtain ⟨V0, hV0⟩ := ZE (wl (fun p => decide (tkC x.px x.py x.qx x.qy p.2)) Lr)
 have hans : Ans L (tkC x.px x.py x.qx x.qy) V0 := by rw [hV0]; exact ans_wl h.rise h.mem _ (fun p _ => ZA7)
 have HR := Lib.hid (fun W (k : Keeps (fun _ => False) w W) => cross_D W R ra rcp Lr (hrf.kd k) (by have := h.len; have := h.ok.len; omega) (fun p hp => h.ok.right p ((h.mem p).2 hp)) x.px x.py x.qx x.qy (fun p => decide (tkC x.px x.py x.qx x.qy p.2)) (fun p _ => ZA7))
 rw [← hV0] at HR
 have HL := Lib.hid (show V0.length ≤ 65536 from ans_small h.ok hans)
 have HAn := Lib.hid hans
 subst hval
 clear hQ hans hV0
 go_enter Tryz.func10, Tryz.ntmps10
 go_wp2_with ((with_reducible refine (HA.out _ Z4).mono ?_); rintro e w1 ⟨VB, V, rfl, k1, hv, ha⟩; have HVV := Lib.hid (And.intro k1 (And.intro hv (ha.one HAn.out))); clear k1 hv ha)
 obtain ⟨k1, hv, hVV⟩ := HVV.out
 subst hVV
 obtain ⟨B5, hB5⟩ := ZE w.heap.size
 obtain ⟨w0, hw0⟩ := ZE (w.alloc (.cells #[.int .i64 x.do_, .int .u32 (x.id : Int), .int .i32 x.b.x0, .int .i32 x.b.y0, .int .i32 x.b.x1, .int .i32 x.b.y1, .int .i32 x.px, .int .i32 x.py, .int .i32 x.qx, .int .i32 x.qy, .int .i64 x.stop] 41))
 have HK0 := Lib.hid (show Keeps (fun _ => False) w w0 from ZAS)
 have HB5 := Lib.hid (show Blk w0 B5 41 [.int .i64 x.do_, .int .u32 (x.id : Int), .int .i32 x.b.x0, .int .i32 x.b.y0, .int .i32 x.b.x1, .int .i32 x.b.y1, .int .i32 x.px, .int .i32 x.py, .int .i32 x.qx, .int .i32 x.qy, .int .i64 x.stop] from ZAG)
 have HN5 := Lib.hid (show ¬ (F B5 ∨ B5 = R) from ZAR)
 (try rw [← hw0])
 (try rw [← hB5])
 have HKa := Lib.hid (show Keeps (fun _ => False) w0 w1 from by rw [hw0]; exact k1)
 clear hw0 hB5
 have HSN := Lib.hid (show ∀ W', Keeps (fun k => F k ∨ k = R) w0 W' → (∀ i : Nat, W'.cell? ⟨B5, i, none⟩ = ([.int .i64 x.do_, .int .u32 (x.id : Int), .int .i32 x.b.x0, .int .i32 x.b.y0, .int .i32 x.b.x1, .int .i32 x.b.y1, .int .i32 x.px, .int .i32 x.py, .int .i32 x.qx, .int .i32 x.qy, .int .i64 x.stop] : List Value)[i]?) from fun W' hk => (HB5.out.keeps hk HN5.out).cell)
 have HVa := Lib.hid hv
 have HRr := Lib.hid (fun W (k : Keeps (fun _ => False) w0 W) => HR.out W (HK0.out.trans k))
 clear h hrf hrd hv k1 hm en hid e0 e1 e2 e3
 have HK1 := HKa
 rename_i Kx hKx
 refine wp_mono (Q := Exit.then Kx (fun _ _ _ => False)) ?_ (fun e a w h => ZAN)
 refine wp_region_held_drew (S := fun W => (∀ i : Nat, W.cell? ⟨B5, i, none⟩ = ([.int .i64 x.do_, .int .u32 (x.id : Int), .int .i32 x.b.x0, .int .i32 x.b.y0, .int .i32 x.b.x1, .int .i32 x.b.y1, .int .i32 x.px, .int .i32 x.py, .int .i32 x.qx, .int .i32 x.qy, .int .i64 x.stop] : List Value)[i]?)) ZAB (HSN.out _ (kf ZAk)) (fun hSx => ?_)
 refine tK 0 hSx ?_
 refine tK 1 hSx ?_
 refine tK 2 hSx ?_
 refine tK 4 hSx ?_
 refine tK 5 hSx ?_
 refine tK 6 hSx ?_
 refine tK 7 hSx ?_
 refine tK 8 hSx ?_
 refine tK 10 hSx ?_
 refine tK 11 hSx ?_
 refine anyH_one 3 ZAB rfl ZAP (fun K hK => ?_)
 go_simp
 (with_reducible refine (told_st (vals_kd HVa.out Z4) HL.out x.stop).mono ?_)
 rintro e w2 ⟨ua, rfl, hu, k2⟩
 have HK2 := Lib.hid (show Keeps (fun _ => False) w0 w2 from Keeps.trans ZAk k2)
 have HVa := Lib.hid (vals_kd HVa.out (Keeps.trans Z4 k2))
 have HUa := Lib.hid hu
 clear hu
 clear k2
 have hS2 := HSN.out _ (kf HK2.out)
 refine hK _ _ hS2 ?_
 clear hK hSx
 try simp only [y0, y1, y2, y3, y4, y5, y6]
 refine anyH_one 9 ZAB rfl ZAP (fun K hK => ?_)
 go_simp
 (with_reducible refine (HRr.out _ ZAj).mono ?_)
 rintro e w3 ⟨ob, cb, rfl, k3, ho⟩
 have HK3 := Lib.hid (show Keeps (fun _ => False) w0 w3 from Keeps.trans ZAj k3)
 have HUa := Lib.hid (U32s_kd HUa.out (Keeps.trans Z4 k3))
 have HVa := Lib.hid (vals_kd HVa.out (Keeps.trans Z4 k3))
 have HOb := Lib.hid ho
 clear ho
 clear k3
 have hS3 := HSN.out _ (kf HK3.out)
 refine hK _ _ hS3 ?_
 clear hK hS2
 try simp only [y0, y1, y2, y3, y4, y5, y6]
 refine anyH_one 12 ZAB rfl ZAP (fun K hK => ?_)
 go_simp
 (with_reducible refine (first_k HOb.out HL.out x.stop).mono ?_)
 rintro e w4 ⟨ub, rfl, hu, k4⟩
 have HK4 := Lib.hid (show Keeps (fun _ => False) w0 w4 from Keeps.trans (by (first | exact HK3.out | exact HK3.out.drew | exact HK3.out.drew.drew)) k4)
 have HUa := Lib.hid (U32s_kd HUa.out (Keeps.trans Z4 k4))
 have HOb := Lib.hid (owns_keeps HOb.out (Keeps.trans Z4 k4) (fun _ _ h => h))
 have HVa := Lib.hid (vals_kd HVa.out (Keeps.trans Z4 k4))
 have HUb := Lib.hid hu
 clear hu
 clear k4
 have hS4 := HSN.out _ (kf HK4.out)
 refine hK _ _ hS4 ?_
 clear hK hS3
 try simp only [y0, y1, y2, y3, y4, y5, y6]
 refine anyH_one 13 ZAB rfl ZAP (fun K hK => ?_)
 go_simp
 (with_reducible refine (same_ok (U32s_kd HUa.out Z4) (U32s_kd HUb.out Z4) (cut_le HL.out)).mono ?_)
 rintro e w5 ⟨rfl, k5⟩
 have HK5 := Lib.hid (show Keeps (fun _ => False) w0 w5 from Keeps.trans (by (first | exact HK4.out | exact HK4.out.drew | exact HK4.out.drew.drew)) k5)
 have HUa := Lib.hid (U32s_kd HUa.out (Keeps.trans Z4 k5))
 have HUb := Lib.hid (U32s_kd HUb.out (Keeps.trans Z4 k5))
 have HOb := Lib.hid (owns_keeps HOb.out (Keeps.trans Z4 k5) (fun _ _ h => h))
 have HVa := Lib.hid (vals_kd HVa.out (Keeps.trans Z4 k5))
 clear k5
 have hS5 := HSN.out _ (kf HK5.out)
 refine hK _ _ hS5 ?_
 clear hK hS4
 try simp only [y0, y1, y2, y3, y4, y5, y6]
 refine tK 14 hS5 ?_
 refine tK 15 hS5 ?_
 refine tK 17 hS5 ?_
 refine tK 18 hS5 ?_
 refine tK 19 hS5 ?_
 refine tK 20 hS5 ?_
 refine tK 21 hS5 ?_
 refine anyH_one 16 ZAB rfl ZAP (fun K hK => ?_)
 go_simp
 (with_reducible refine (told_0 (vals_kd HVa.out Z4) HL.out).mono ?_)
 rintro e w6 ⟨uc, rfl, hu, k6⟩
 have HK6 := Lib.hid (show Keeps (fun _ => False) w0 w6 from Keeps.trans (by (first | exact HK5.out | exact HK5.out.drew | exact HK5.out.drew.drew)) k6)
 have HUa := Lib.hid (U32s_kd HUa.out (Keeps.trans Z4 k6))
 have HUb := Lib.hid (U32s_kd HUb.out (Keeps.trans Z4 k6))
 have HOb := Lib.hid (owns_keeps HOb.out (Keeps.trans Z4 k6) (fun _ _ h => h))
 have HVa := Lib.hid (vals_kd HVa.out (Keeps.trans Z4 k6))
 have HUc := Lib.hid hu
 clear hu
 clear k6
 have hS6 := HSN.out _ (kf HK6.out)
 refine hK _ _ hS6 ?_
 clear hK hS5
 try simp only [y0, y1, y2, y3, y4, y5, y6]
 refine anyH_one 22 ZAB rfl ZAP (fun K hK => ?_)
 go_simp
 (with_reducible refine (HRr.out _ ZAi).mono ?_)
 rintro e w7 ⟨od, cd, rfl, k7, ho⟩
 have HK7 := Lib.hid (show Keeps (fun _ => False) w0 w7 from Keeps.trans ZAi k7)
 have HUa := Lib.hid (U32s_kd HUa.out (Keeps.trans Z4 k7))
 have HUb := Lib.hid (U32s_kd HUb.out (Keeps.trans Z4 k7))
 have HUc := Lib.hid (U32s_kd HUc.out (Keeps.trans Z4 k7))
 have HOb := Lib.hid (owns_keeps HOb.out (Keeps.trans Z4 k7) (fun _ _ h => h))
 have HVa := Lib.hid (vals_kd HVa.out (Keeps.trans Z4 k7))
 have HOd := Lib.hid ho
 clear ho
 clear k7
 have hS7 := HSN.out _ (kf HK7.out)
 refine hK _ _ hS7 ?_
 clear hK hS6
 try simp only [y0, y1, y2, y3, y4, y5, y6]
 refine anyH_one 23 ZAB rfl ZAP (fun K hK => ?_)
 go_simp
 (with_reducible refine (same_ok (U32s_kd HUc.out Z4) (U32s_kd (u32s_row HOd.out) Z4) HL.out).mono ?_)
 rintro e w8 ⟨rfl, k8⟩
 have HK8 := Lib.hid (show Keeps (fun _ => False) w0 w8 from Keeps.trans (by (first | exact HK7.out | exact HK7.out.drew | exact HK7.out.drew.drew)) k8)
 have HUa := Lib.hid (U32s_kd HUa.out (Keeps.trans Z4 k8))
 have HUb := Lib.hid (U32s_kd HUb.out (Keeps.trans Z4 k8))
 have HUc := Lib.hid (U32s_kd HUc.out (Keeps.trans Z4 k8))
 have HOb := Lib.hid (owns_keeps HOb.out (Keeps.trans Z4 k8) (fun _ _ h => h))
 have HOd := Lib.hid (owns_keeps HOd.out (Keeps.trans Z4 k8) (fun _ _ h => h))
 have HVa := Lib.hid (vals_kd HVa.out (Keeps.trans Z4 k8))
 clear k8
 have hS8 := HSN.out _ (kf HK8.out)
 refine hK _ _ hS8 ?_
 clear hK hS7
 try simp only [y0, y1, y2, y3, y4, y5, y6]
 refine tK 24 hS8 ?_
 refine tK 25 hS8 ?_
 refine wpAnyH_done ZAB ?_ _
 refine hKx _ _ ?_
 clear hKx hS8
 go_wp2
 go_ret
 exact ⟨rfl, HH.out.still (HK0.out.trans (by (first | exact HK8.out | exact HK8.out.drew | exact HK8.out.drew.drew)))⟩
theorem done_len {w : World} {v : Value} {F : Nat → Prop} {L : List (Nat × Bx)} {R : Nat} {Lr : List (Nat × Bx)} (h : Pr w v F L R Lr) (x : Stp) (hid : x.id < 4294967296) (hk : x.do_ = 4) : Calls Tryz.prog 10 #[v, .pointer (some ⟨R, 0, none⟩), .agg #[.int .i64 x.do_, .int .u32 (x.id : Int), .int .i32 x.b.x0, .int .i32 x.b.y0, .int .i32 x.b.x1, .int .i32 x.b.y1, .int .i32 x.px, .int .i32 x.py, .int .i32 x.qx, .int .i32 x.qy, .int .i64 x.stop]] w fun e w' => e = .returned (.bool true) ∧ StepD v R F w w' := by
 have e0 : (x.do_ == 0) = false := by rw [hk]; rfl
 have e1 : (x.do_ == 1) = false := by rw [hk]; rfl
 have e2 : (x.do_ == 2) = false := by rw [hk]; rfl
 have e3 : (x.do_ == 3) = false := by rw [hk]; rfl
 have e4 : (x.do_ == 4) = true := by rw [hk]; rfl
 clear hk
 obtain ⟨t, B, fA, fC, fL, rL, hQ⟩ := h.fd.asks h.ok
 have en := hQ.enL
 have HA := Lib.hid (And.intro hQ.mL hQ.aL)
 have hval := hQ.val
 have HH := Lib.hid h
 obtain ⟨ra, rcp, hrf, hrd⟩ := h.rf
 subst hval
 go_enter Tryz.func10, Tryz.ntmps10
 go_wp2
 obtain ⟨B5, hB5⟩ := ZE w.heap.size
 obtain ⟨w0, hw0⟩ := ZE (w.alloc (.cells #[.int .i64 x.do_, .int .u32 (x.id : Int), .int .i32 x.b.x0, .int .i32 x.b.y0, .int .i32 x.b.x1, .int .i32 x.b.y1, .int .i32 x.px, .int .i32 x.py, .int .i32 x.qx, .int .i32 x.qy, .int .i64 x.stop] 41))
 have HK0 := Lib.hid (show Keeps (fun _ => False) w w0 from ZAS)
 have HB5 := Lib.hid (show Blk w0 B5 41 [.int .i64 x.do_, .int .u32 (x.id : Int), .int .i32 x.b.x0, .int .i32 x.b.y0, .int .i32 x.b.x1, .int .i32 x.b.y1, .int .i32 x.px, .int .i32 x.py, .int .i32 x.qx, .int .i32 x.qy, .int .i64 x.stop] from ZAG)
 have HN5 := Lib.hid (show ¬ (F B5 ∨ B5 = R) from ZAR)
 (try rw [← hw0])
 (try rw [← hB5])
 clear hw0 hB5
 have bR := hrf.blk
 rw [← h.len] at bR
 obtain ⟨m, hm⟩ := ZE L.length
 rw [← hm] at HA bR
 have HSN := Lib.hid (show ∀ W', Keeps (fun _ => False) w0 W' → (∀ i : Nat, W'.cell? ⟨R, i, none⟩ = ([.slice ra m rcp] : List Value)[i]?) from fun W' hk => (bR.keeps (HK0.out.trans hk) (fun h => h)).cell)
 clear h hQ hrf hrd bR hm hid e0 e1 e2 e3 e4
 rename_i Kx hKx
 refine wp_mono (Q := Exit.then Kx (fun _ _ _ => False)) ?_ (fun e a w h => ZAN)
 refine wp_region_held_drew (S := fun W => (∀ i : Nat, W.cell? ⟨R, i, none⟩ = ([.slice ra m rcp] : List Value)[i]?)) ZAB (HSN.out _ Z4) (fun hSx => ?_)
 refine tK 0 hSx ?_
 refine tK 2 hSx ?_
 refine tK 3 hSx ?_
 refine tK 4 hSx ?_
 refine tK 5 hSx ?_
 refine tK 6 hSx ?_
 refine anyH_one 1 ZAB rfl ZAP (fun K hK => ?_)
 have hm := HA.out.1 w0.drew (HK0.out.trans (Keeps.refl _ _).drew)
 go_simp
 (with_reducible refine (HA.out.2 w0.drew (HK0.out.trans (Keeps.refl _ _).drew)).mono ?_)
 rintro e w1 ⟨rfl, hw1⟩
 have HK1 := Lib.hid (show Keeps (fun _ => False) w0 w1 from by rw [← hw1]; exact Z4)
 clear hw1 hm
 have hS1 := HSN.out _ HK1.out
 refine hK _ _ hS1 ?_
 clear hK hSx
 try simp only [y0, y1, y2, y3, y4, y5, y6]
 refine tK 7 hS1 ?_
 refine tK 8 hS1 ?_
 refine wpAnyH_done ZAB ?_ _
 refine hKx _ _ ?_
 clear hKx hS1
 go_wp2
 go_ret
 exact ⟨rfl, HH.out.still (HK0.out.trans HK1.out)⟩
theorem done_else {w : World} {v : Value} {F : Nat → Prop} {L : List (Nat × Bx)} {R : Nat} {Lr : List (Nat × Bx)} (h : Pr w v F L R Lr) (x : Stp) (hid : x.id < 4294967296) (hk : ¬ (0 ≤ x.do_ ∧ x.do_ ≤ 4)) : Calls Tryz.prog 10 #[v, .pointer (some ⟨R, 0, none⟩), .agg #[.int .i64 x.do_, .int .u32 (x.id : Int), .int .i32 x.b.x0, .int .i32 x.b.y0, .int .i32 x.b.x1, .int .i32 x.b.y1, .int .i32 x.px, .int .i32 x.py, .int .i32 x.qx, .int .i32 x.qy, .int .i64 x.stop]] w fun e w' => e = .returned (.bool true) ∧ StepD v R F w w' := by
 have e0 : (x.do_ == 0) = false := by simp; omega
 have e1 : (x.do_ == 1) = false := by simp; omega
 have e2 : (x.do_ == 2) = false := by simp; omega
 have e3 : (x.do_ == 3) = false := by simp; omega
 have e4 : (x.do_ == 4) = false := by simp; omega
 clear hk
 have HH := Lib.hid h
 clear h hid
 go_enter Tryz.func10, Tryz.ntmps10
 go_wp2
 go_ret
 exact ⟨rfl, HH.out.still Z4⟩
theorem done_t {w : World} {v : Value} {F : Nat → Prop} {L : List (Nat × Bx)} {R : Nat} {Lr : List (Nat × Bx)} (h : Pr w v F L R Lr) (x : Stp) (hid : x.id < 4294967296) : Calls Tryz.prog 10 #[v, .pointer (some ⟨R, 0, none⟩), .agg #[.int .i64 x.do_, .int .u32 (x.id : Int), .int .i32 x.b.x0, .int .i32 x.b.y0, .int .i32 x.b.x1, .int .i32 x.b.y1, .int .i32 x.px, .int .i32 x.py, .int .i32 x.qx, .int .i32 x.qy, .int .i64 x.stop]] w fun e w' => e = .returned (.bool true) ∧ StepD v R F w w' := by
 by_cases h0 : x.do_ = 0
 ·exact done_put h x hid h0
 by_cases h1 : x.do_ = 1
 ·exact done_del h x hid h1
 by_cases h2 : x.do_ = 2
 ·exact done_at h x hid h2
 by_cases h3 : x.do_ = 3
 ·exact done_cr h x hid h3
 by_cases h4 : x.do_ = 4
 ·exact done_len h x hid h4
 exact done_else h x hid Z8
end Fq
end Go.Proofs.YtdbpfbokfmpgcaaGreat
