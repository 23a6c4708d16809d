/-
GtE: GridMisses on the lattice.
-/
import Derived.Test.YtppiohmnbffndaaZbfGtD
namespace Go.Proofs.Ytppiohmnbffndaa
open Go.RowKit Go.Shelf
set_option linter.unusedVariables false
set_option linter.unusedSimpArgs false
set_option linter.ambiguousOpen false
attribute [local go_sem] Oper.semAt_some
namespace Gs
open Mem Gr
theorem bool_of (p : Prop) : ∃ o : Bool, o = true ↔ p := by
  by_cases h : p
  · exact ⟨true, by simp [h]⟩
  · exact ⟨false, by simp [h]⟩
set_option maxHeartbeats 8000000 in
set_option maxRecDepth 100000 in
theorem misses_on (w : World) (s : Int) (a : Option Addr) (rows : List Bx) (cap : Nat) (px py qx qy : Int) (wh : Nat) (hwh : wh < 256) (hs : Size s) (hp : On px py) (hq : On qx qy) (hrows : RowsB w a rows) (hl : rows.length ≤ 9223372036854775807) :
    Calls Try.prog 3 #[.agg #[.int .i64 s, .slice a rows.length cap, .int .i32 px, .int .i32 py, .int .i32 qx, .int .i32 qy, .int .u8 (wh : Int)]] w (fun e w' => e = .returned (.bool true) ∧ Keeps (fun k => w.heap.size ≤ k) w w') := by
  have z1 := inside_t px py
  have z2 := inside_t qx qy
  have z3 := along_t px py qx qy wh hwh hp hq
  simp only [hp, hq, decide_true] at z1 z2
  have HR := Lib.hid (And.intro hrows (And.intro hp hq))
  clear hrows hp hq
  (have b1 := Blk.new w 26 [.int .i64 s, .slice a rows.length cap, .int .i32 px, .int .i32 py, .int .i32 qx, .int .i32 qy, .int .u8 (wh : Int)]; have k1 : Keeps (fun _ => False) w (w.alloc (.cells #[.int .i64 s, .slice a rows.length cap, .int .i32 px, .int .i32 py, .int .i32 qx, .int .i32 qy, .int .u8 (wh : Int)] 26)) := (Keeps.refl _ w).alloc _; have HB := Lib.hid (And.intro b1 k1); have cA := b1.cell; clear b1 k1; go_enter Try.func3, Try.ntmps3)
  go_wp2_with (first
    | (go_at_call 6; (first | (have := HK1; (with_reducible refine (gd_new _ s hs).mono ?_); rintro e w2 ⟨Gh, FH, rfl, hg2, hk2, hf2⟩; have HG2 := Lib.hid (And.intro hg2 (And.intro hk2 hf2)); have HK2 := Lib.hid (HK1.out.trans hk2); have cA2 := (HB.out.1.keeps ((HK1B.out).trans hk2) (fun h => h)).cell; clear hg2 hk2 hf2 cA1) | ((with_reducible refine (gd_new _ s hs).mono ?_); rintro e w1 ⟨Gg, FG, rfl, hg1, hk1, hf1⟩; have HG1 := Lib.hid (And.intro hg1 (And.intro hk1 hf1)); have HK1B := Lib.hid hk1; have HK1 := Lib.hid (HB.out.2.trans hk1); have cA1 := (HB.out.1.keeps hk1 (fun h => h)).cell; clear hg1 hk1 hf1 cA)))
    | (go_at_call 7; (first | (have := HK3; (with_reducible refine (z2 _).mono ?_); rintro e w4 ⟨rfl, hw⟩; have HK4 := Lib.hid (show Keeps (fun _ => False) w2 w4 from by rw [← hw]; exact HK3.out.alloc _); have cA4 := (HB.out.1.keeps (HK1B.out.trans (HG2.out.2.1.trans HK4.out)) (fun h => h)).cell; clear hw cA3) | ((with_reducible refine (z1 _).mono ?_); rintro e w3 ⟨rfl, hw⟩; have HK3 := Lib.hid (show Keeps (fun _ => False) w2 w3 from by rw [← hw]; (repeat (first | exact Keeps.refl _ _ | refine Keeps.alloc ?_ _ | refine Keeps.drew ?_))); have cA3 := (HB.out.1.keeps (HK1B.out.trans (HG2.out.2.1.trans HK3.out)) (fun h => h)).cell; clear hw cA2)))
    | (go_at_call 9; (with_reducible refine (z3 _).mono ?_); rintro e w5 ⟨⟨mx, my, rfl, hway, hm⟩, hk5⟩; have HM := Lib.hid (And.intro hway hm); have HK5 := Lib.hid (HK4.out.trans hk5); have cA5 := ((HB.out.1.keeps (HK1B.out.trans (HG2.out.2.1.trans (HK4.out.trans hk5))) (fun h => h)).alloc (.cells #[.int .i32 mx, .int .i32 my] 24)).cell; clear hway hm hk5 cA4))
  obtain ⟨n, hn⟩ : ∃ n : Nat, (n : Int) = min (rows.length : Int) 64 := ⟨min rows.length 64, by omega⟩
  rw [← hn]
  have hn64 : n ≤ 64 := by omega
  have hnl : n ≤ rows.length := by omega
  clear hn
  obtain ⟨W0, hW0⟩ : ∃ W0, W0 = w5.alloc (.cells #[.int .i32 mx, .int .i32 my] 24) := ⟨_, rfl⟩
  have bM : Blk W0 w5.heap.size 24 [.int .i32 mx, .int .i32 my] := by rw [hW0]; exact Blk.new w5 _ [_, _]
  rw [← hW0] at cA5 ⊢
  have kW0 : Keeps (fun _ => False) w2 W0 := by rw [hW0]; exact HK5.out.alloc _
  obtain ⟨MB, hMB⟩ : ∃ MB, MB = w5.heap.size := ⟨_, rfl⟩
  obtain ⟨AB, hAB⟩ : ∃ AB, AB = w.heap.size := ⟨_, rfl⟩
  have bA := HB.out.1.keeps (HK1B.out.trans (HG2.out.2.1.trans kW0)) (fun h => h)
  have kA : Keeps (fun k => w.heap.size ≤ k) w W0 := (HK2.out.trans kW0).mono (fun _ _ h => h.elim)
  have hT0 : Two w.heap.size Gg Gh s (Sg rows 0) (Sh rows n 0) 0 W0 := by
    obtain ⟨g1, g2, g3⟩ := HG1.out
    obtain ⟨h1, h2, h3⟩ := HG2.out
    have e1 := g2.size
    simp only [World.size_alloc] at e1 g3
    exact ((two_new g1 (fun k hk => by have := g3 k hk; omega) h2 h1 h3 (by omega)).kd kW0).congr (fun id x => by simp [Sg]) (fun id x => by simp [Sh]; omega)
  rw [← hMB] at bM ⊢
  rw [← hAB] at bA cA5 ⊢
  have hBW : AB < W0.heap.size := bA.lt
  have HW := Lib.hid (And.intro bA (And.intro bM (And.intro kA (And.intro hT0 (And.intro hBW hAB)))))
  clear bA bM kA hT0 hBW kW0 hW0 hMB HK5 HK4 HK3 HK2 HK1B HG1 HG2 cA5 hAB HB
  go_loopw [9] (fun v9 wr => ∃ i : Nat, v9 = .int .i64 (i : Int) ∧ i ≤ n ∧ Two w.heap.size Gg Gh s (Sg rows i) (Sh rows n i) (2 * i) wr ∧ Kt w.heap.size W0 wr) (fun v9 wr => n - (intOf v9).toNat)
  case atStart => exact ⟨0, rfl, Nat.zero_le _, HW.out.2.2.2.1, Kt.refl _ _⟩
  case round =>
    obtain ⟨i, rfl, hin, hT, hkt⟩ := hrel
    have bA := hkt.2 _ _ _ (by decide) HW.out.1
    have cA := bA.cell
    have hkr : Keeps (fun k => w.heap.size ≤ k) w wr := HW.out.2.2.1.trans hkt.1
    have hBr : w.heap.size ≤ wr.heap.size := hkr.size
    have HT := Lib.hid (And.intro hT (And.intro hkt (And.intro hBr (And.intro hkr bA))))
    clear hT hkt hkr bA hBr
    rcases Nat.lt_or_ge i n with hi | hi
    · obtain ⟨j, hj⟩ : ∃ j : Nat, j = n - 1 - i := ⟨_, rfl⟩
      have hj' : (n : Int) - 1 - (i : Int) = (j : Int) := by omega
      obtain ⟨b, hb⟩ : ∃ b, rows[i]? = some b := ⟨_, List.getElem?_eq_getElem (by omega)⟩
      obtain ⟨c, hc⟩ : ∃ c, rows[j]? = some c := ⟨_, List.getElem?_eq_getElem (by omega)⟩
      obtain ⟨g, off, rfl, hg, t0, t1, t2, t3⟩ := HR.out.1 i b hb
      obtain ⟨g', off', he, hg', y0, y1, y2, y3⟩ := HR.out.1 j c hc
      simp only [Option.some.injEq, Addr.mk.injEq, and_true] at he
      obtain ⟨rfl, rfl⟩ := he
      have q0 := HT.out.2.2.2.1.cell t0 (by simp; omega)
      have q1 := HT.out.2.2.2.1.cell t1 (by simp; omega)
      have q2 := HT.out.2.2.2.1.cell t2 (by simp; omega)
      have q3 := HT.out.2.2.2.1.cell t3 (by simp; omega)
      have HY := Lib.hid (And.intro y0 (And.intro y1 (And.intro y2 (And.intro y3 hg))))
      have HC := Lib.hid (And.intro hb (And.intro hc hj))
      have hil : (i : Int) < (rows.length : Int) := by omega
      have hjl : (j : Int) < (rows.length : Int) := by omega
      have hlt : (i : Int) < (n : Int) := by omega
      have u1 : IntKind.u32.wrap (i : Int) = (i : Int) := IntWalk.u32_in _ (by omega)
      have u2 : IntKind.u32.wrap (j : Int) = (j : Int) := IntWalk.u32_in _ (by omega)
      have hp1 := Lib.hid (two_put w.heap.size Gg Gh s hs _ _ (2 * i) wr HT.out.1 HT.out.2.2.1 (by omega) i b (fun x hx => by unfold Sg at hx; omega))
      clear hb hc hj t0 t1 t2 t3 y0 y1 y2 y3 hg hg'
      go_wp2_with (first
        | (go_at_call 10; (first | ((with_reducible refine hp1.out.mono ?_); rintro e w6 ⟨⟨v, rfl⟩, hT6, hk6⟩; have HP1 := Lib.hid (And.intro hT6 hk6); have hkk := HT.out.2.2.2.1.trans hk6.1; have y0 := hkk.cell HY.out.1 (by have := HY.out.2.2.2.2; simp; omega); have y1 := hkk.cell HY.out.2.1 (by have := HY.out.2.2.2.2; simp; omega); have y2 := hkk.cell HY.out.2.2.1 (by have := HY.out.2.2.2.2; simp; omega); have y3 := hkk.cell HY.out.2.2.2.1 (by have := HY.out.2.2.2.2; simp; omega); have cA6 := (hk6.2 _ _ _ (by decide) HT.out.2.2.2.2).cell; clear hT6 hk6 hkk cA q0 q1 q2 q3 hp1) | ((with_reducible refine (two_put w.heap.size Gh Gg s hs _ _ (2 * i + 1) w6 HP1.out.1.symm (Nat.le_trans HT.out.2.2.1 HP1.out.2.size) (by omega) j c (fun x hx => by have := HC.out.2.2; unfold Sh at hx; omega)).mono ?_); rintro e w7 ⟨⟨v2, rfl⟩, hT7, hk7⟩; have HP2 := Lib.hid (And.intro hT7 hk7); clear hT7 hk7)))
        )
      go_roundw
      case rel =>
        refine ⟨i + 1, ?_, by omega, ?_, HT.out.2.1.trans (HP1.out.2.trans HP2.out.2)⟩
        · rw [Int.natCast_add]; rfl
        · exact (HP2.out.1.symm.more (by omega)).congr (sg_step HC.out.1) (sh_step (by omega) HC.out.2.2 HC.out.2.1)
      case measure =>
        simp only [intOf]
        omega
    · obtain rfl : i = n := by omega
      have hR1 : Right ⟨px, py, px, py⟩ := ⟨HR.out.2.1, HR.out.2.1, Int.le_refl _, Int.le_refl _⟩
      have hp3 : Calls Try.prog 10 #[.pointer (some ⟨Gh, 0, none⟩), .int .u32 1000, .agg #[.int .i32 px, .int .i32 py, .int .i32 px, .int .i32 py]] wr _ := two_put w.heap.size Gh Gg s hs _ _ (2 * i) wr HT.out.1.symm HT.out.2.2.1 (by omega) 1000 ⟨px, py, px, py⟩ (fun x hx => by unfold Sh at hx; omega)
      have HP3 := Lib.hid hp3
      clear hp3
      go_wp2_with (first
        | (go_at_call 10; (with_reducible refine HP3.out.mono ?_); rintro e w6 ⟨⟨v, rfl⟩, hT6, hk6⟩; have HT6 := Lib.hid (And.intro hT6 hk6); clear hT6 hk6 cA)
        | (go_at_call 11; (with_reducible refine Calls.mono (show Calls Try.prog 11 #[.pointer (some ⟨Gh, 0, none⟩), .int .u32 1000] w6 _ from two_del w.heap.size Gh Gg s hs _ _ _ w6 HT6.out.1 1000 ⟨px, py, px, py⟩ (.inr ⟨rfl, rfl, hR1⟩)) ?_); rintro e w7 ⟨rfl, hT7, hk7⟩; have HT7 := Lib.hid (And.intro hT7 (HT6.out.2.trans hk7)); clear hT7 hk7))
      have hTT : Two w.heap.size Gg Gh s (Sg rows i) (Sg rows i) 200 w7 := by
        refine (HT7.out.1.symm.more (by omega)).congr (fun _ _ => Iff.rfl) (fun id x => ?_)
        rw [← sh_all]
        constructor
        · rintro ⟨h1 | ⟨rfl, _⟩, h2⟩
          · exact h1
          · exact absurd rfl h2
        · intro h1
          exact ⟨.inl h1, by unfold Sh at h1; omega⟩
      have HZ := Lib.hid (And.intro hTT (show Kt w.heap.size W0 w7 from HT.out.2.1.trans HT7.out.2))
      have HQ := Lib.hid hR1
      clear hTT hR1 HT7 HT6 HP3 HT hin hi
      go_loopw [10] (fun v10 wr => ∃ k : Nat, v10 = .int .i64 (k : Int) ∧ k ≤ i ∧ Two w.heap.size Gg Gh s (Sg rows i) (Sg rows i) 200 wr ∧ Kt w.heap.size W0 wr) (fun v10 wr => i - (intOf v10).toNat)
      case atStart => exact ⟨0, rfl, Nat.zero_le _, HZ.out.1, HZ.out.2⟩
      case round =>
        obtain ⟨k, rfl, hkn, hT, hkt⟩ := hrel
        have hkr : Keeps (fun k => w.heap.size ≤ k) w wr := HW.out.2.2.1.trans hkt.1
        have bA := hkt.2 _ _ _ (by decide) HW.out.1
        have bM := hkt.2 _ _ _ (by decide) HW.out.2.1
        have HV := Lib.hid (And.intro hT (And.intro hkt hkr))
        clear hT hkt
        rcases Nat.lt_or_ge k i with hi | hi
        · obtain ⟨b, hb⟩ : ∃ b, rows[k]? = some b := ⟨_, List.getElem?_eq_getElem (by omega)⟩
          obtain ⟨g, off, rfl, hg, t0, t1, t2, t3⟩ := HR.out.1 k b hb
          have q0 := hkr.cell t0 (by simp; omega)
          have q1 := hkr.cell t1 (by simp; omega)
          have q2 := hkr.cell t2 (by simp; omega)
          have q3 := hkr.cell t3 (by simp; omega)
          have cA0 := bA.cell
          obtain ⟨WB, hWB⟩ : ∃ WB, WB = wr.alloc (.cells #[.int .i32 b.x0, .int .i32 b.y0, .int .i32 b.x1, .int .i32 b.y1] 37) := ⟨_, rfl⟩
          have kWB : Keeps (fun _ => False) wr WB := by rw [hWB]; exact (Keeps.refl _ _).alloc _
          have bB : Blk WB wr.heap.size 37 [.int .i32 b.x0, .int .i32 b.y0, .int .i32 b.x1, .int .i32 b.y1] := by rw [hWB]; exact Blk.new wr _ [_, _, _, _]
          have HF := Lib.hid (show ∀ W, Keeps (fun _ => False) WB W → (∀ j : Nat, W.cell? ⟨AB, j, none⟩ = ([.int .i64 s, .slice (some ⟨g, off, none⟩) rows.length cap, .int .i32 px, .int .i32 py, .int .i32 qx, .int .i32 qy, .int .u8 (wh : Int)] : List Value)[j]?) ∧ (∀ j : Nat, W.cell? ⟨MB, j, none⟩ = ([.int .i32 mx, .int .i32 my] : List Value)[j]?) ∧ (∀ j : Nat, W.cell? ⟨wr.heap.size, j, none⟩ = ([.int .i32 b.x0, .int .i32 b.y0, .int .i32 b.x1, .int .i32 b.y1] : List Value)[j]?) from
            fun W hk => ⟨(bA.keeps (kWB.trans hk) (fun h => h)).cell, (bM.keeps (kWB.trans hk) (fun h => h)).cell, (bB.keeps hk (fun h => h)).cell⟩)
          have HK := Lib.hid (Keeps.refl (fun _ => False) WB)
          have HTT := Lib.hid (show ∀ W, Keeps (fun _ => False) WB W → Two w.heap.size Gg Gh s (Sg rows i) (Sg rows i) 200 W from fun W hk => HV.out.1.kd (kWB.trans hk))
          obtain ⟨cA, cM, cB⟩ := HF.out _ HK.out
          have HkWB := Lib.hid kWB
          have hil : (k : Int) < (rows.length : Int) := by omega
          have hlt : (k : Int) < (i : Int) := by omega
          have u1 : IntKind.u32.wrap (k : Int) = (k : Int) := IntWalk.u32_in _ (by omega)
          have HB := Lib.hid (And.intro hb hi)
          have HWB := Lib.hid hWB
          have hS := HM.out.2
          have HM2 := Lib.hid hS
          clear hb t0 t1 t2 t3 bA bM hkr hg bB kWB hS hi
          by_cases hIN : On b.x0 b.y0 ∧ On b.x1 b.y1 ∧ b.x0 ≤ mx ∧ mx ≤ b.x1 ∧ b.y0 ≤ my ∧ my ≤ b.y1
          · obtain ⟨i0, i1, i2, i3, i4, i5⟩ := hIN
            obtain ⟨y1, y2⟩ := in_told hs HB.out.2 HB.out.1 HM.out.1 i0 i1 i2 i3 i4 i5
            have z4 := inside_t b.x0 b.y0
            have z5 := inside_t b.x1 b.y1
            simp only [i0, i1, decide_true] at z4 z5
            have HO := Lib.hid (And.intro y1 y2)
            clear y1 y2 i0 i1
            rw [hWB] at cB cM cA
            (go_wp2_with (first | (go_at_call 7; (first | ((with_reducible refine (z4 _).mono ?_); rintro e wi ⟨rfl, hw⟩; have HK := Lib.hid (show Keeps (fun _ => False) WB wi from by rw [← hw]; exact (show Keeps (fun _ => False) WB _ from by first | exact HK.out | (rw [← HWB.out]; exact HK.out)).alloc _); clear hw cA cM cB; obtain ⟨cA, cM, cB⟩ := HF.out _ HK.out) | ((with_reducible refine (z5 _).mono ?_); rintro e wi ⟨rfl, hw⟩; have HK := Lib.hid (show Keeps (fun _ => False) WB wi from by rw [← hw]; exact (show Keeps (fun _ => False) WB _ from by first | exact HK.out | (rw [← HWB.out]; exact HK.out)).alloc _); clear hw cA cM cB; obtain ⟨cA, cM, cB⟩ := HF.out _ HK.out))) | (go_at_call 13; (first | (with_reducible refine (at_has w.heap.size Gg Gh s hs _ _ 200 _ (HTT.out _ HK.out) (by decide) mx my HM2.out k true ⟨fun _ => HO.out.1, fun _ => rfl⟩).mono ?_) | (with_reducible refine (at_has w.heap.size Gh Gg s hs _ _ 200 _ (HTT.out _ HK.out).symm (by decide) mx my HM2.out k true ⟨fun _ => HO.out.1, fun _ => rfl⟩).mono ?_)); rintro e wa ⟨VB, rfl, hka, hha⟩; have HKP := HK; have HK := Lib.hid (HK.out.trans hka); have HH := Lib.hid hha; clear hka hha cA cM cB) | (go_at_call 14; (first | (with_reducible refine (cross_has w.heap.size Gg Gh s hs _ _ 200 _ (HTT.out _ HK.out) (by decide) px py qx qy HR.out.2.1 HR.out.2.2 k true ⟨fun _ => HO.out.2, fun _ => rfl⟩).mono ?_) | (with_reducible refine (cross_has w.heap.size Gh Gg s hs _ _ 200 _ (HTT.out _ HK.out).symm (by decide) px py qx qy HR.out.2.1 HR.out.2.2 k true ⟨fun _ => HO.out.2, fun _ => rfl⟩).mono ?_)); rintro e wa ⟨VB, rfl, hka, hha⟩; have HKP := HK; have HK := Lib.hid (HK.out.trans hka); have HH := Lib.hid hha; clear hka hha cA cM cB) | (go_at_call 12; (with_reducible refine HH.out.mono ?_); rintro e wb ⟨rfl, hkb⟩; have HK := Lib.hid (HKP.out.trans hkb); clear hkb; obtain ⟨cA, cM, cB⟩ := HF.out _ HK.out)))
            refine ⟨⟨k + 1, by rw [Int.natCast_add]; rfl, by omega, HTT.out _ HK.out, HV.out.2.1.trans ((Kt.of HkWB.out).trans (Kt.of HK.out))⟩, by simp only [intOf]; omega⟩
          · have HNI := Lib.hid hIN
            clear hIN
            have z4 := inside_t b.x0 b.y0
            have z5 := inside_t b.x1 b.y1
            obtain ⟨o1, ho1⟩ := bool_of (atT s (Sg rows i) mx my k)
            obtain ⟨o2, ho2⟩ := bool_of (crT s (Sg rows i) px py qx qy k)
            have HO := Lib.hid (And.intro ho1 ho2)
            clear ho1 ho2
            rw [hWB] at cB cM cA
            (go_wp2_with (first | (go_at_call 7; (first | ((with_reducible refine (z4 _).mono ?_); rintro e wi ⟨rfl, hw⟩; have HK := Lib.hid (show Keeps (fun _ => False) WB wi from by rw [← hw]; exact (show Keeps (fun _ => False) WB _ from by first | exact HK.out | (rw [← HWB.out]; exact HK.out)).alloc _); clear hw cA cM cB; obtain ⟨cA, cM, cB⟩ := HF.out _ HK.out) | ((with_reducible refine (z5 _).mono ?_); rintro e wi ⟨rfl, hw⟩; have HK := Lib.hid (show Keeps (fun _ => False) WB wi from by rw [← hw]; exact (show Keeps (fun _ => False) WB _ from by first | exact HK.out | (rw [← HWB.out]; exact HK.out)).alloc _); clear hw cA cM cB; obtain ⟨cA, cM, cB⟩ := HF.out _ HK.out))) | (go_at_call 13; (first | (with_reducible refine (at_has w.heap.size Gg Gh s hs _ _ 200 _ (HTT.out _ HK.out) (by decide) mx my HM2.out k o1 HO.out.1).mono ?_) | (with_reducible refine (at_has w.heap.size Gh Gg s hs _ _ 200 _ (HTT.out _ HK.out).symm (by decide) mx my HM2.out k o1 HO.out.1).mono ?_)); rintro e wa ⟨VB, rfl, hka, hha⟩; have HKP := HK; have HK := Lib.hid (HK.out.trans hka); have HH := Lib.hid hha; clear hka hha cA cM cB) | (go_at_call 14; (first | (with_reducible refine (cross_has w.heap.size Gg Gh s hs _ _ 200 _ (HTT.out _ HK.out) (by decide) px py qx qy HR.out.2.1 HR.out.2.2 k o2 HO.out.2).mono ?_) | (with_reducible refine (cross_has w.heap.size Gh Gg s hs _ _ 200 _ (HTT.out _ HK.out).symm (by decide) px py qx qy HR.out.2.1 HR.out.2.2 k o2 HO.out.2).mono ?_)); rintro e wa ⟨VB, rfl, hka, hha⟩; have HKP := HK; have HK := Lib.hid (HK.out.trans hka); have HH := Lib.hid hha; clear hka hha cA cM cB) | (go_at_call 12; (with_reducible refine HH.out.mono ?_); rintro e wb ⟨rfl, hkb⟩; have HK := Lib.hid (HKP.out.trans hkb); clear hkb; obtain ⟨cA, cM, cB⟩ := HF.out _ HK.out)))
            all_goals first
              | (refine ⟨⟨k + 1, by rw [Int.natCast_add]; rfl, by omega, HTT.out _ HK.out, HV.out.2.1.trans ((Kt.of HkWB.out).trans (Kt.of HK.out))⟩, by simp only [intOf]; omega⟩)
              | (exfalso; refine HNI.out ⟨?_, ?_, ?_, ?_, ?_, ?_⟩ <;> first | assumption | omega)
        · obtain rfl : k = i := by omega
          obtain ⟨F, H, h1, h2, _⟩ := HV.out.1
          obtain ⟨l, c, hlc⟩ := gd_counts wr Gg Gh s _ 200 F H h1 h2
          obtain ⟨d1, d2, d3, d4⟩ := hlc wr (Keeps.refl _ _)
          have HD := Lib.hid (And.intro d1 (And.intro d2 (And.intro d3 d4)))
          clear d1 d2 d3 d4 hlc h1 h2 bA bM hkr
          go_wp2_with (first
            | (go_at_call 15; (first | (with_reducible refine HD.out.1.mono ?_) | (with_reducible refine HD.out.2.1.mono ?_)); rintro e w8 ⟨rfl, rfl⟩)
            | (go_at_call 16; (first | (with_reducible refine HD.out.2.2.1.mono ?_) | (with_reducible refine HD.out.2.2.2.mono ?_)); rintro e w8 ⟨rfl, rfl⟩)
            | (go_at_call 8; (with_reducible refine (works_yes _).mono ?_); rintro e w9 ⟨rfl, hk9⟩; have HK9 := Lib.hid hk9; clear hk9))
          go_ret
          exact ⟨rfl, HV.out.2.2.trans (HK9.out.mono (fun _ _ h => h.elim))⟩
end Gs
end Go.Proofs.Ytppiohmnbffndaa
