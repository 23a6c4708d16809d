/-
GsD: Cover, whole.
-/
import Derived.Test.YtdbpfbokfmpgcaaGreatZalGsC
set_option linter.unusedVariables false
set_option linter.unusedSimpArgs false
set_option maxHeartbeats 16000000
set_option maxRecDepth 100000
attribute [local go_sem] Go.Oper.semAt_some
namespace Go.Proofs.YtdbpfbokfmpgcaaGreat
open Go.RowKit Go.Shelf
namespace Gs
open Mem Gr
theorem cover_t (b : Bx) (s : Int) (w : World) : Calls Tryz.prog 127 #[.agg #[.int .i32 b.x0, .int .i32 b.y0, .int .i32 b.x1, .int .i32 b.y1], .int .i64 s] w fun e w' => e = .returned (.func (.func 138) #[] #[.pointer (some ⟨w.heap.size + 1, 0, none⟩), .pointer (some ⟨w.heap.size, 0, none⟩)]) ∧ (w.alloc (.cells #[.int .i32 b.x0, .int .i32 b.y0, .int .i32 b.x1, .int .i32 b.y1] 39)).alloc (.cells #[.int .i64 s] 2) = w' := by
 go_enter Tryz.func127, Tryz.ntmps127
 go_wp2
 go_ret
 exact ⟨rfl, rfl⟩
theorem blk_top {w : World} {X : Nat} {t : TypeId} {cs : List Value} (h : X = w.heap.size) : Blk (w.alloc (.cells cs.toArray t)) X t cs := by subst h; exact Blk.new w t cs
theorem beq_cl (a b c d : Int) (W : World) : (binOp .eql 181 (.agg #[.int .i32 a, .int .i32 b]) (.agg #[.int .i32 c, .int .i32 d])).run Tryz.prog W = .ok (.bool (decide ((a, b) = (c, d)))) W := by
 have hS : Tryz.prog.underlying 181 = some (.struct (Tryz.prog.fieldsOf 181)) := by kernel_rfl
 have hp : Tryz.prog.stoodInHeld 181 = false := by kernel_rfl
 rw [run_eql_struct, show (10000 : Nat) = 9999 + 1 from rfl, run_equalIn_agg W 9999 181 _ _ hS hp]
 simp only [Program.fieldsOf, Tryz.underlying181]
 go_simp
 by_cases h1 : a = c <;> by_cases h2 : b = d <;> simp [h1, h2]
theorem grd_cl (op : BinOp) (x y : Operand) (a b : Array Value) (W : World) : (eqGuard op 181 x y (.agg a) (.agg b)).run Tryz.prog W = .ok () W := run_eqGuard_agg W op 181 x y a b ZAB
theorem cover_one {s : Int} {b : Bx} (h1 : b.x0 / s = b.x1 / s) (h2 : b.y0 / s = b.y1 / s) : coverL s b = [(b.x0 / s, b.y0 / s)] := by
 unfold coverL
 rw [← h1, ← h2, upto_cons (Int.le_refl _), upto_nil Z8, upto_cons (Int.le_refl _), upto_nil Z8]
 rfl
theorem cover_gives (n SB BB : Nat) (s : Int) (b : Bx) (hs : Size s) (hb : Right b) (W : World) (hS : Blk W SB 2 [.int .i64 s]) (hB : Blk W BB 39 [.int .i32 b.x0, .int .i32 b.y0, .int .i32 b.x1, .int .i32 b.y1]) :
 Gives Tryz.prog n 138 #[.pointer (some ⟨SB, 0, none⟩), .pointer (some ⟨BB, 0, none⟩)] (fun c : Cl => #[.agg #[.int .i32 c.1, .int .i32 c.2]]) (coverL s b) W (fun _ => True) := by
 refine Gives.any (n := 9) ?_
 intro l J Jx S hA hJ hJx hin hY h0
 have o1 := of_t b.x0 b.y0 s hs hb.1
 have o2 := of_t b.x1 b.y1 s hs hb.2.1
 have z1 := size_t s
 have z2 := box_t b
 simp only [hs, hb, decide_true] at z1 z2
 refine callsIn_of_wp_marks Tryz.func138 rfl trivial ?_ rfl
 simp only [Tryz.ntmps138, List.size_toArray, List.length_cons, List.length_nil, Nat.reduceAdd, Nat.reduceSub, Array.replicate_succ, Array.replicate_zero, List.push_toArray, List.append_toArray, List.nil_append, List.cons_append]
 have HY := Lib.hid hY; clear hY
 have H0 := Lib.hid h0; clear h0
 have HJ := Lib.hid (And.intro hJ hJx); clear hJ hJx
 have cS := fun o => (hS.alloc o).cell 0
 have cB := fun o => (hB.alloc o).cell
 simp only [List.getElem?_cons_zero] at cS
 have HS := Lib.hid hS
 have HB := Lib.hid hB
 clear hS hB
 have HK1 := Lib.hid (Keeps.refl (fun _ => False) (W.alloc (.cells #[.func (.yield l) #[] #[]] 183)))
 gi_wp2_with (first
  | (refine ⟨trivial, ?_⟩; gi_at_call 132; refine (callsIn_wide.2 (z1 _)).mono ?_; rintro e w1 ⟨rfl, rfl⟩)
  | (refine ⟨trivial, ?_⟩; gi_at_call 137; refine (callsIn_wide.2 (z2 _)).mono ?_; rintro e w1 ⟨rfl, hk1⟩; have HK := Lib.hid (HK1.out.trans hk1); clear hk1))
 rename_i Kx hKx
 have hwS := HS.out.keeps (((Keeps.refl (fun _ => False) W).alloc (.cells #[.func (.yield l) #[] #[]] 183)).trans HK.out) (fun h => h)
 have hwB := HB.out.keeps (((Keeps.refl (fun _ => False) W).alloc (.cells #[.func (.yield l) #[] #[]] 183)).trans HK.out) (fun h => h)
 have HWS := Lib.hid (And.intro hwS hwB)
 clear hwS hwB cS cB
 refine wpIn_mono (Q := Exit.then (fun a' W' => ∃ X4 X5, Fr a' 48 [(3, .pointer (some ⟨W.heap.size, 0, none⟩)), (4, .pointer (some ⟨X4, 0, none⟩)), (5, .pointer (some ⟨X5, 0, none⟩))] ∧ Blk W' X4 181 [.int .i32 (b.x0 / s), .int .i32 (b.y0 / s)] ∧ Blk W' X5 181 [.int .i32 (b.x1 / s), .int .i32 (b.y1 / s)] ∧ Keeps (fun _ => False) w1 W' ∧ w1.heap.size ≤ X4 ∧ w1.heap.size ≤ X5) (fun _ _ _ => False)) ?region ?rest
 case region =>
  refine wpIn_wide.2 ?_
  go_region_held3 (fun W1 => (∀ i : Nat, W1.cell? ⟨SB, i, none⟩ = ([.int .i64 s] : List Value)[i]?) ∧ (∀ i : Nat, W1.cell? ⟨BB, i, none⟩ = ([.int .i32 b.x0, .int .i32 b.y0, .int .i32 b.x1, .int .i32 b.y1] : List Value)[i]?)) (first | with_reducible assumption | exact ⟨(HWS.out.1.keeps (S := fun _ => False) Z4 (fun h => h)).cell, (HWS.out.2.keeps (S := fun _ => False) Z4 (fun h => h)).cell⟩) (first
   | (go_at_call 134; (first | (with_reducible refine (o1 _).mono ?_) | (with_reducible refine (o2 _).mono ?_)); rintro e w2 ⟨rfl, rfl⟩))
  all_goals
   refine ⟨?_, ?_, ⟨rfl, rfl, ?_⟩, ?_, ?_, ?_, ?_, ?_⟩
   rotate_left 2
   ·intro p hp
    simp only [List.mem_cons, List.not_mem_nil, or_false] at hp
    rcases hp with rfl | rfl | rfl <;> rfl
   ·(repeat (first | (refine blk_top ?_; simp only [World.size_alloc, World.size_drew]; done) | refine Blk.drew ?_ | refine Blk.alloc ?_ _))
   ·(repeat (first | (refine blk_top ?_; simp only [World.size_alloc, World.size_drew]; done) | refine Blk.drew ?_ | refine Blk.alloc ?_ _))
   ·(repeat (first | exact Keeps.refl _ _ | refine Keeps.alloc ?_ _ | refine Keeps.drew ?_))
   ·omega
   ·omega
 case rest =>
  intro e a W' hpost
  cases e with
  | normal =>
   obtain ⟨X4, X5, hF, hX4, hX5, hk, hz4, hz5⟩ := hpost
   have kW : Keeps (fun _ => False) W W' := (((Keeps.refl (fun _ => False) W).alloc (.cells #[.func (.yield l) #[] #[]] 183)).trans HK.out).trans hk
   have hB3 := (Blk.new W 183 [.func (.yield l) #[] #[]]).keeps (HK.out.trans hk) (fun h => h)
   have hj0 : J [] S W' := HJ.out.1 [] S (fun _ => False) W W' H0.out hin kW (fun _ _ h => h) (fun _ h => h.elim)
   have hin' := hin.mono kW.size
   have hz1 := HK.out.size
   simp only [World.size_alloc] at hz1
   refine hKx a W' ?_
   revert hF
   refine fun hF => frames48 (P := fun a => Fr a 48 [(3, .pointer (some ⟨W.heap.size, 0, none⟩)), (4, .pointer (some ⟨X4, 0, none⟩)), (5, .pointer (some ⟨X5, 0, none⟩))] → Code.wpIn _ _ _ _ _ a W') ?_ a hF.1 hF.2.1 hF
   intro u0 u1 u2 u3 u4 u5 u6 u7 u8 u9 u10 u11 u12 u13 u14 u15 u16 u17 u18 u19 u20 u21 u22 u23 u24 u25 u26 u27 u28 u29 u30 u31 u32 u33 u34 u35 u36 u37 u38 u39 u40 u41 u42 u43 u44 u45 u46 u47 hF
   obtain rfl : u3 = .pointer (some ⟨W.heap.size, 0, none⟩) := hF.at_ 3 _ ZA7
   obtain rfl : u4 = .pointer (some ⟨X4, 0, none⟩) := hF.at_ 4 _ ZA7
   obtain rfl : u5 = .pointer (some ⟨X5, 0, none⟩) := hF.at_ 5 _ ZA7
   clear hF
   have c3 := hB3.cell 0
   simp only [List.getElem?_cons_zero] at c3
   have c4 := hX4.cell
   have c5 := hX5.cell
   have hgd := grd_cl
   by_cases heq : (b.x0 / s, b.y0 / s) = (b.x1 / s, b.y1 / s)
   ·have hbe : ∀ W, (binOp .eql 181 (.agg #[.int .i32 (b.x0 / s), .int .i32 (b.y0 / s)]) (.agg #[.int .i32 (b.x1 / s), .int .i32 (b.y1 / s)])).run Tryz.prog W = .ok (.bool true) W := fun W => by rw [beq_cl, decide_eq_true heq]
    have hone := cover_one (Prod.mk.inj heq).1 (Prod.mk.inj heq).2
    obtain ⟨fn, tmps, assign, body, hy, hR⟩ := HY.out [] (b.x0 / s, b.y0 / s) [] S W' (by rw [hone]; rfl) hj0 hin'
    have HO := Lib.hid hone
    have HKW := Lib.hid (And.intro kW hj0)
    clear kW hj0 hone hk hX4 hX5 hB3
    gi_wp2
    refine hR.mono ?_
    have hfk : Foot S S W W' := Foot.same (HKW.out.1.mono (fun _ _ h => h.elim))
    rintro e W3 ⟨S3, hf3, hin3, (⟨rfl, hj3⟩ | ⟨rfl, hj3⟩)⟩
    ·gi_wp2
     exact ⟨_, results_none rfl _ _ _, ⟨_, rfl⟩, S3, hfk.trans hf3, hin3, .inl (by rw [HO.out]; exact hj3)⟩
    ·gi_wp2
     exact ⟨_, results_none rfl _ _ _, ⟨_, rfl⟩, S3, hfk.trans hf3, hin3, .inr ⟨_, by rw [HO.out]; exact List.prefix_refl _, hj3⟩⟩
   ·have hbe : ∀ W, (binOp .eql 181 (.agg #[.int .i32 (b.x0 / s), .int .i32 (b.y0 / s)]) (.agg #[.int .i32 (b.x1 / s), .int .i32 (b.y1 / s)])).run Tryz.prog W = .ok (.bool false) W := fun W => by rw [beq_cl, decide_eq_false heq]
    have hq1 := quot_in hs.1 hb.1.1 hb.1.2.1
    have hq2 := quot_in hs.1 hb.1.2.2.1 hb.1.2.2.2
    have hq3 := quot_in hs.1 hb.2.1.1 hb.2.1.2.1
    have hq4 := quot_in hs.1 hb.2.1.2.2.1 hb.2.1.2.2.2
    have HQ := Lib.hid (And.intro hq1 (And.intro hq2 (And.intro hq3 hq4)))
    have HKW := Lib.hid (And.intro kW (And.intro hj0 (And.intro hk (And.intro hX4 (And.intro hX5 hB3)))))
    clear kW hj0 hk hX4 hX5 hB3 hq1 hq2 hq3 hq4
    gi_wp2_with (refine ⟨trivial, ?_⟩; gi_at_call 139; refine (callsIn_wide.2 (between_t _ _ _)).mono ?_; rintro e w5 ⟨rfl, rfl⟩)
    obtain ⟨kW, hj0, hk, hX4, hX5, hB3⟩ := HKW.out
    obtain ⟨hq1, hq2, hq3, hq4⟩ := HQ.out
    have k2 : Keeps (fun _ => False) W' ((W'.alloc (.cells #[.int .i32 (b.y0 / s)] 21)).alloc (.cells #[.int .i32 (b.y1 / s)] 21)) := by (repeat (first | exact Keeps.refl _ _ | refine Keeps.alloc ?_ _ | refine Keeps.drew ?_))
    have q1 := (Blk.new W' 21 [.int .i32 (b.y0 / s)]).alloc (.cells #[.int .i32 (b.y1 / s)] 21)
    have q2 := Blk.new (W'.alloc (.cells #[.int .i32 (b.y0 / s)] 21)) 21 [.int .i32 (b.y1 / s)]
    simp only [World.size_alloc] at q1 q2
    obtain ⟨Wb, hWb⟩ := ZE ((W'.alloc (.cells #[.int .i32 (b.y0 / s)] 21)).alloc (.cells #[.int .i32 (b.y1 / s)] 21))
    have hzb : Wb.heap.size = W'.heap.size + 1 + 1 := by rw [hWb]; simp
    rw [← hWb] at k2 q1 q2 ⊢
    clear hWb
    have hzW := kW.size
    have hb3 := hB3.keeps k2 (fun h => h)
    have hb4 := hX4.keeps k2 (fun h => h)
    have hb5 := hX5.keeps k2 (fun h => h)
    have hSlt : ∀ k, S k → k < W.heap.size := hin
    have hn3 : ¬ S W.heap.size := fun h => by have := hSlt _ h; omega
    have hn4 : ¬ S X4 := fun h => by have := hSlt _ h; omega
    have hn5 : ¬ S X5 := fun h => by have := hSlt _ h; omega
    have hjb : J [] S Wb := HJ.out.1 [] S (fun _ => False) W' Wb hj0 hin' k2 (fun _ _ h => h) (fun _ h => h.elim)
    have kWb : Keeps (fun _ => False) W Wb := kW.trans k2
    have HEnd := Lib.hid (show ∀ (D : Nat) (S' : Nat → Prop) (W2 : World), Wb.heap.size ≤ D → ¬ S' D → Foot S S' Wb W2 → Inb S' W2 → ∀ {K : List Cl → (Nat → Prop) → World → Prop} {pre : List Cl}, Stab W.heap.size K → K pre S' W2 → Foot S S' W (W2.putObj D (.deferred none)) ∧ Inb S' (W2.putObj D (.deferred none)) ∧ K pre S' (W2.putObj D (.deferred none)) from by
     intro D S' W2 hD hnD hf hin2 K pre hK hk2
     have kp := keeps_putObj W2 D (.deferred none)
     refine ⟨?_, hin2.mono kp.size, hK pre S' (fun k => k = D) W2 _ hk2 hin2 kp (fun k h e => hnD (e ▸ h)) (fun k e => Z8)⟩
     have h1 : Foot S S' W W2 := (Foot.same (kWb.mono (fun _ _ h => h.elim))).trans hf
     exact ⟨h1.1.then kp (fun i hi e => Z8), h1.2⟩)
    refine wpIn_rangeH (gf := 145) (lb := #[.pointer (some ⟨W'.heap.size, 0, none⟩), .pointer (some ⟨W'.heap.size + 1, 0, none⟩)]) (encs := fun x : Int => #[.int .i32 x]) (xs := upto (b.y0 / s) (b.y1 / s)) (A := fun S => ¬ S W'.heap.size ∧ ¬ S (W'.heap.size + 1)) rfl (enters_of Tryz.func145 ZAB rfl)
     (fun W1 hk => between1_gives _ _ _ _ _ W1 Z8 Z8 (q1.keeps hk (fun h => h)) (q2.keeps hk (fun h => h))) (fun _ => rfl)
     (fun ys S2 W2 => CvI J S Wb (rowsL (b.x0 / s) (b.x1 / s) ys) S2 W2) (fun c _ S2 W2 => CvX Jx S Wb (coverL s b) c S2 W2)
     (cvi_stab HJ.out.1 Z8 (Nat.le_refl _) _) (fun c => cvx_stab HJ.out.2 Z8 (Nat.le_refl _) _ c)
     S (hin'.mono k2.size) ⟨hjb, Foot.refl _ _⟩ (fun S' hS' => ⟨fun h => by rcases hS' _ h with h | h; exact absurd (hSlt _ h) Z8; omega, fun h => by rcases hS' _ h with h | h; exact absurd (hSlt _ h) Z8; omega⟩)
     (fun s2 S2 W2 => ∃ X6, Fr s2.2.2 48 [(3, .pointer (some ⟨W.heap.size, 0, none⟩)), (4, .pointer (some ⟨X4, 0, none⟩)), (5, .pointer (some ⟨X5, 0, none⟩)), (6, .pointer (some ⟨X6, 0, none⟩))] ∧ Bxd (CvI J S Wb (rowsL (b.x0 / s) (b.x1 / s) s2.1)) X6 s2.2.1 S2 W2)
     (fun s2 S2 T W2 W3 ⟨X6, hF6, h6⟩ hin hk hd ht => ⟨X6, hF6, bxd_stab (cvi_stab HJ.out.1 Z8 (Nat.le_refl _) (fun s2 : List Int × Int × Act => rowsL (b.x0 / s) (b.x1 / s) s2.1)) X6 s2.2.1 s2 S2 T W2 W3 h6 hin hk hd ht⟩) ?assign ?body ?done ?stop
    case assign =>
     intro l1 pre x rest S2 W2 hxs hI hin2 hlt
     have HX2 := Lib.hid (And.intro hI hin2)
     clear hI hin2 hjb hj0 hX4 hX5 hB3 hb3 hb4 hb5 q1 q2 c3 c4 c5
     gi_wp2
     obtain ⟨hI, hin2⟩ := HX2.out
     have ka := (Keeps.refl (fun _ => False) W2).alloc (.cells #[.int .i32 x] 21)
     have hI2 := cvi_stab (b := Wb.heap.size) HJ.out.1 Z8 (Nat.le_refl _) (fun ys => rowsL (b.x0 / s) (b.x1 / s) ys) pre S2 (fun _ => False) W2 _ hI hin2 ka (fun _ _ h => h) (fun _ h => h.elim)
     refine ⟨fun k => S2 k ∨ k = W2.heap.size, ⟨ka.mono (fun _ _ h => h.elim), fun k hk => ?_⟩, fun k hk => ?_, W2.heap.size, ⟨rfl, rfl, ZA7⟩, S2, fun _ => Iff.rfl, fun h => by have := hin2 _ h; omega, hin2.mono ka.size, hI2, Blk.new W2 21 [.int .i32 x]⟩
     ·rcases hk with h | h
      ·exact .inl h
      ·exact .inr Z8
     ·simp only [World.size_alloc]
      rcases hk with h | h
      ·have := hin2 k h; omega
      ·omega
    case body =>
     rintro l1 pre x rest a1 S2 W2 hxs ⟨X6, hF6, h6⟩ hin2 hlt ⟨_, _, hl1⟩
     exact cover_row l l1 J Jx S Wb (coverL s b) W.heap.size X4 X5 X6 W.heap.size (b.x0 / s) (b.y0 / s) (b.x1 / s) (b.y1 / s) x hb3 hn3 hb4 hn4 hb5 hn5 Z8 Z8 HJ.out.1 HJ.out.2 Z8 HY.out pre (rowsL (b.x0 / s) (b.x1 / s) rest) (by unfold coverL rowsL; rw [hxs]; simp) S2 W2 a1 hF6 h6 hin2 hl1
    case done =>
     rintro D S' W2 hD hnD hf2 hin2 ⟨hj2, _⟩ hDD
     obtain ⟨e1, e2, e3⟩ := HEnd.out D S' W2 hD hnD hf2 hin2 HJ.out.1 hj2
     clear hjb hj0 hX4 hX5 hB3 hb3 hb4 hb5 q1 q2 c3 c4 c5 hj2
     gi_wp2
     exact ⟨ZA7, .inl ⟨_, _, rfl, run_takeDeferred hDD, _, results_none rfl _ _ _, ⟨_, rfl⟩, S', e1, e2, .inl e3⟩⟩
    case stop =>
     rintro D c pre S' W2 hD hnD hf2 hin2 hpre ⟨rfl, _, pre2, hp2, hj2⟩ hDD
     obtain ⟨e1, e2, e3⟩ := HEnd.out D S' W2 hD hnD hf2 hin2 HJ.out.2 hj2
     clear hjb hj0 hX4 hX5 hB3 hb3 hb4 hb5 q1 q2 c3 c4 c5 hj2
     gi_wp2
     exact ⟨ZA7, .inl ⟨_, _, rfl, run_takeDeferred hDD, _, results_none rfl _ _ _, ⟨_, rfl⟩, S', e1, e2, .inr ⟨pre2, hp2, e3⟩⟩⟩
  | ret => exact hpost.elim
  | exit id => exact hpost.elim
  | goto t => exact hpost.elim
  | panic ch => exact hpost.elim
  | outgrown => exact hpost.elim
end Gs
end Go.Proofs.YtdbpfbokfmpgcaaGreat
