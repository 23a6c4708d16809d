/-
MwN: the little script is gone through, with a wrong beginning of what was applied.
-/
import Derived.Test.YtdaindihobfokaaGreatDoorZbuMwM
namespace Go.Proofs.YtdaindihobfokaaGreatDoor
open Go.RowKit
set_option linter.unusedVariables false
set_option linter.unusedSimpArgs false
set_option linter.ambiguousOpen false
attribute [local go_sem] Oper.semAt_some Mb.run_store_float
namespace Mw
open Mem Dr
set_option maxHeartbeats 16000000 in
set_option maxRecDepth 100000 in
theorem make_no (sb ab g c : Nat) (w : World) (hs : Blk w sb 77 (stepsL g c)) (ha : Blk w ab 59 [.int .i64 1, .int .i64 1]) (hb : Wi.Bys w (some ⟨g, 0, none⟩) frL) (hc : 30 ≤ c) :
    Calls Tryz.prog 16 #[.agg (scL sb).toArray, .slice (some ⟨ab, 0, none⟩) 1 1] w fun e w' => e = .returned (.tuple #[.agg idL0.toArray, .int .i64 300]) ∧ Keeps (fun _ => False) w w' := by
  have HA := Lib.hid (And.intro hs (And.intro ha (And.intro hb hc)))
  have H0 := Lib.hid (show Keeps (fun _ => False) w (((w.alloc (.cells (scL sb).toArray 45)).alloc (.cells idL0.toArray 54)).alloc (.cells cfgL.toArray 42)) ∧ Blk (((w.alloc (.cells (scL sb).toArray 45)).alloc (.cells idL0.toArray 54)).alloc (.cells cfgL.toArray 42)) w.heap.size 45 (scL sb) ∧ Blk (((w.alloc (.cells (scL sb).toArray 45)).alloc (.cells idL0.toArray 54)).alloc (.cells cfgL.toArray 42)) (w.heap.size + 1) 54 idL0 ∧ Blk (((w.alloc (.cells (scL sb).toArray 45)).alloc (.cells idL0.toArray 54)).alloc (.cells cfgL.toArray 42)) (w.heap.size + 1 + 1) 42 cfgL from by
    refine ⟨by (repeat (first | exact Keeps.refl _ _ | refine Keeps.drew ?_ | refine Keeps.alloc ?_ _)), ((Blk.new w _ _).alloc _).alloc _, ?_, ?_⟩
    · have := (Blk.new (w.alloc (.cells (scL sb).toArray 45)) 54 idL0).alloc (.cells cfgL.toArray 42)
      simp only [World.size_alloc] at this
      exact this
    · have := Blk.new ((w.alloc (.cells (scL sb).toArray 45)).alloc (.cells idL0.toArray 54)) 42 cfgL
      simp only [World.size_alloc] at this
      exact this)
  clear hs ha hb hc
  go_enter Tryz.func16, Tryz.ntmps16
  go_wp2_with (first
    | (go_at_call 20; (with_reducible refine (fits_t _).mono ?_); rintro e w1 ⟨rfl, hk⟩; have K1 := Lib.hid (And.intro (H0.out.1.trans hk) hk); have c2 := (H0.out.2.1.keeps hk (fun h => h)).cell; clear hk)
    | (go_at_call 21; (with_reducible refine (contains_t sb g c _ (HA.out.1.keeps K1.out.1 (fun h => h))).mono ?_); rintro e w2 ⟨rfl, hk⟩; have K2 := Lib.hid (And.intro (K1.out.1.trans hk) (K1.out.2.trans hk)); clear hk))
  clear c2
  have HB2 := Lib.hid (H0.out.2.1.keeps K2.out.2 (fun h => h))
  have HB4 := Lib.hid (H0.out.2.2.1.keeps K2.out.2 (fun h => h))
  have HB6 := Lib.hid (H0.out.2.2.2.keeps K2.out.2 (fun h => h))
  have HA2 := Lib.hid (And.intro (HA.out.1.keeps K2.out.1 (fun h => h)) (And.intro (HA.out.2.1.keeps K2.out.1 (fun h => h)) (And.intro (HA.out.2.2.1.keeps K2.out.1 (Wi.far_none _)) HA.out.2.2.2)))
  obtain ⟨B2, hB2⟩ : ∃ B, B = w.heap.size := ⟨_, rfl⟩
  obtain ⟨B4, hB4⟩ : ∃ B, B = w.heap.size + 1 := ⟨_, rfl⟩
  obtain ⟨B6, hB6⟩ : ∃ B, B = w.heap.size + 1 + 1 := ⟨_, rfl⟩
  have HZ := Lib.hid (show w.heap.size ≤ B2 ∧ w.heap.size ≤ B4 ∧ B2 ≠ B4 from ⟨by omega, by omega, by omega⟩)
  rw [← hB2] at HB2
  rw [← hB4] at HB4
  rw [← hB6] at HB6
  (try rw [← hB6])
  (try rw [← hB4])
  (try rw [← hB2])
  clear hB2 hB4 hB6 H0
  have hw2 : IntKind.i64.wrap 2 = 2 := by kernel_rfl
  apply join_k
  refine wp_region_held_drew (S := fun W => ∀ i : Nat, W.cell? ⟨B6, i, none⟩ = (cfgL : List Value)[i]?) (by kernel_rfl) HB6.out.drew.cell (fun hS0 => ?_)
  refine tK 0 hS0 ?_
  refine tK 4 hS0 ?_
  refine tK 5 hS0 ?_
  refine tK 6 hS0 ?_
  refine allocs [1, 2, 3, 7, 8, 9, 10] sl4 Post4 bl4 3 (by decide) (by decide) ?inn (fun W k => (HB6.out.drew.keeps k (fun h => h)).cell) (by kernel_rfl) ?step ?mono ?fin
  case inn =>
    intro i hi
    simp only [List.mem_cons, List.not_mem_nil, or_false] at hi
    rcases hi with rfl | rfl | rfl | rfl | rfl | rfl | rfl <;> simp [sl4]
  case mono =>
    intro i hi v W W' k h
    unfold Post4 at h ⊢
    split at h
    · rename_i e
      rw [if_pos e]
      obtain ⟨r, rfl, hb⟩ := h
      exact ⟨r, rfl, hb.keeps k (fun h => h)⟩
    · rename_i e
      rw [if_neg e]
      obtain ⟨r, rfl, hm⟩ := h
      exact ⟨r, rfl, hm.keeps k (fun h => h)⟩
  case step =>
    intro i hi
    simp only [List.mem_cons, List.not_mem_nil, or_false] at hi
    rcases hi with rfl | rfl | rfl | rfl | rfl | rfl | rfl
    · exact step_of rfl rfl rfl (step_m (by decide) _ rfl)
    · exact step_of rfl rfl rfl (step_m (by decide) _ rfl)
    · exact step_of rfl rfl rfl (step_m (by decide) _ rfl)
    · refine step_of rfl rfl rfl (step_7 ?_ ?_)
      · kernel_rfl
      · kernel_rfl
    · exact step_of rfl rfl rfl (step_m (by decide) _ rfl)
    · exact step_of rfl rfl rfl (step_m (by decide) _ rfl)
    · exact step_of rfl rfl rfl (step_m (by decide) _ rfl)
  case fin =>
    intro f w3 hk hp hd
    obtain ⟨p1, l1, u1⟩ := hp 1 (by simp)
    unfold Post4 at p1
    rw [if_neg (by decide)] at p1
    obtain ⟨kb, e1, m1⟩ := p1
    obtain ⟨p2, l2, u2⟩ := hp 2 (by simp)
    unfold Post4 at p2
    rw [if_neg (by decide)] at p2
    obtain ⟨fb, e2, m2⟩ := p2
    obtain ⟨p3, l3, u3⟩ := hp 3 (by simp)
    unfold Post4 at p3
    rw [if_neg (by decide)] at p3
    obtain ⟨tb, e3, m3⟩ := p3
    obtain ⟨p7, l7, u7⟩ := hp 7 (by simp)
    unfold Post4 at p7
    rw [if_pos rfl] at p7
    obtain ⟨lb, e7, m7⟩ := p7
    obtain ⟨p8, l8, u8⟩ := hp 8 (by simp)
    unfold Post4 at p8
    rw [if_neg (by decide)] at p8
    obtain ⟨ob, e8, m8⟩ := p8
    obtain ⟨p9, l9, u9⟩ := hp 9 (by simp)
    unfold Post4 at p9
    rw [if_neg (by decide)] at p9
    obtain ⟨xb, e9, m9⟩ := p9
    obtain ⟨p10, l10, u10⟩ := hp 10 (by simp)
    unfold Post4 at p10
    rw [if_neg (by decide)] at p10
    obtain ⟨zb, e10, m10⟩ := p10
    have n18 : kb ≠ ob := by have := hd 1 (by simp) 8 (by simp) (by decide); rw [e1, e8] at this; exact this
    have n19 : kb ≠ xb := by have := hd 1 (by simp) 9 (by simp) (by decide); rw [e1, e9] at this; exact this
    have n89 : ob ≠ xb := by have := hd 8 (by simp) 9 (by simp) (by decide); rw [e8, e9] at this; exact this
    rw [e1] at l1
    rw [e7] at l7
    rw [e8] at l8
    have g1 : w2.heap.size ≤ kb := l1
    have g7 : w2.heap.size ≤ lb := l7
    have g8 : w2.heap.size ≤ ob := l8
    have H3 := Lib.hid (And.intro m1 (And.intro m7 (And.intro m8 (And.intro m9 (And.intro n18 (And.intro n19 n89))))))
    have G3 := Lib.hid (And.intro g1 (And.intro g7 g8))
    have k3 : Keeps (fun _ => False) w2 w3 := (Keeps.refl (fun _ => False) w2).drew.trans hk
    have K3 := Lib.hid k3
    have hS3 := (HB6.out.keeps k3 (fun h => h)).cell
    simp only [putAll, show sl4 1 = 23 from rfl, show sl4 2 = 24 from rfl, show sl4 3 = 25 from rfl, show sl4 7 = 29 from rfl, show sl4 8 = 30 from rfl, show sl4 9 = 31 from rfl, show sl4 10 = 32 from rfl, y0, y1, y2, y3, y4, y5, y6, e1, e2, e3, e7, e8, e9, e10]
    clear hp hd e1 e2 e3 e7 e8 e9 e10 m1 m2 m3 m7 m8 m9 m10 l1 l2 l3 l7 l8 l9 l10 u1 u2 u3 u7 u8 u9 u10 n18 n19 n89 g1 g7 g8 k3 hk hS0
    refine tK 11 hS3 ?_
    refine anyH_one 12 (by kernel_rfl) rfl (by rfl) (fun K hK => ?_)
    go_simp
    refine hK _ _ ((HB6.out.keeps K3.out (fun h => h)).alloc _).cell ?_
    clear hK K
    try simp only [y0, y1, y2, y3, y4, y5, y6]
    refine tK 13 ((HB6.out.keeps K3.out (fun h => h)).alloc _).cell ?_
    refine wpAnyH_done (by kernel_rfl) ?_ _
    clear hS3
    obtain ⟨mb, hmb⟩ : ∃ mb, mb = w3.heap.size := ⟨_, rfl⟩
    obtain ⟨w4, hw4⟩ : ∃ w4, w4 = w3.alloc (.cells (modL kb fb tb lb ob xb zb (.slice none 0 0) (.slice none 0 0) (.slice none 0 0)).toArray 90) := ⟨_, rfl⟩
    have HM4 := Lib.hid (show MS w4 mb kb fb tb lb ob xb zb (.slice none 0 0) (.slice none 0 0) (.slice none 0 0) (.slice none 0 0) #[] #[] 0 0 from ⟨by rw [hw4, hmb]; exact Blk.new w3 _ _, by rw [hw4]; exact H3.out.2.1.alloc _, by rw [hw4]; exact H3.out.1.alloc _, by rw [hw4]; exact H3.out.2.2.1.alloc _, by rw [hw4]; exact H3.out.2.2.2.1.alloc _, H3.out.2.2.2.2.1, H3.out.2.2.2.2.2.1, H3.out.2.2.2.2.2.2⟩)
    have K4 := Lib.hid (show Keeps (fun _ => False) w2 w4 from by rw [hw4]; exact K3.out.alloc _)
    have G4 := Lib.hid (show w2.heap.size ≤ mb from by rw [hmb]; exact K3.out.size)
    (try rw [← hw4])
    (try rw [← hmb])
    clear hw4 hmb
    have KW4 := Lib.hid (K4.out.mono (T := fun k => w2.heap.size ≤ k) (fun _ _ h => h.elim))
    have HL := Lib.hid (And.intro HA2.out.1.lt (And.intro HA2.out.2.1.lt (And.intro HB2.out.lt HB4.out.lt)))
    have hs4 := (HA2.out.1.keeps K4.out (fun h => h)).cell
    have h24 := (HB2.out.keeps K4.out (fun h => h)).cell
    go_wp2
    refine wp_loop_rounds 3 ?_
    rw [rounds_succ]
    go_wp2
    clear hs4 h24
    obtain ⟨Bt, hBt⟩ : ∃ B, B = w4.heap.size := ⟨_, rfl⟩
    obtain ⟨w5, hw5⟩ : ∃ w5, w5 = w4.alloc (.cells #[.int .u8 1, .int .i64 0, .int .i64 0, .int .i64 0, .slice (some ⟨g, 0, none⟩) 30 c] 77) := ⟨_, rfl⟩
    have K5 := Lib.hid (show Keeps (fun _ => False) w4 w5 from by rw [hw5]; (repeat (first | exact Keeps.refl _ _ | refine Keeps.drew ?_ | refine Keeps.alloc ?_ _)))
    have HBt := Lib.hid (show Blk w5 Bt 77 [.int .u8 1, .int .i64 0, .int .i64 0, .int .i64 0, .slice (some ⟨g, 0, none⟩) 30 c] from by rw [hw5, hBt]; exact Blk.new w4 _ _)
    have HM5 := Lib.hid (HM4.out.kd K5.out)
    have GBt := Lib.hid (show Bt ≠ lb ∧ Bt ≠ kb ∧ Bt ≠ mb from ⟨by have := HM4.out.l.lt; omega, by have := HM4.out.k.lt; omega, by have := HM4.out.m.lt; omega⟩)
    (try rw [← hw5])
    (try rw [← hBt])
    clear hw5 hBt
    have HAD := Lib.hid (admit_t (mb := mb) g c w5.drew (HM5.out.kd (Keeps.refl _ _).drew) (HA2.out.2.2.1.keeps (K4.out.trans (K5.out.drew)) (Wi.far_none _)) HA2.out.2.2.2)
    apply join_k
    refine wp_region_held_drew (S := fun W => (∀ i : Nat, W.cell? ⟨Bt, i, none⟩ = ([.int .u8 1, .int .i64 0, .int .i64 0, .int .i64 0, .slice (some ⟨g, 0, none⟩) 30 c] : List Value)[i]?)) (by kernel_rfl) HBt.out.drew.cell (fun hS0 => ?_)
    refine tK 0 hS0 ?_
    refine tK 1 hS0 ?_
    refine tK 2 hS0 ?_
    refine tK 3 hS0 ?_
    refine tK 4 hS0 ?_
    refine tK 6 hS0 ?_
    refine tK 7 hS0 ?_
    refine tK 8 hS0 ?_
    refine tK 9 hS0 ?_
    refine anyH_two 5 10 (by kernel_rfl) rfl (by rfl) rfl (by rfl) (fun K hK => ?_) (fun K hK => ?_)
    · have q := HM5.out.m.drew.cell
      go_simp
      refine hK _ _ hS0 ?_
      clear hK K q
      try simp only [y0, y1, y2, y3, y4, y5, y6]
      refine anyH_one 10 (by kernel_rfl) rfl (by rfl) (fun K hK => ?_)
      go_simp
      go_at_call 24
      (with_reducible refine HAD.out.mono ?_)
      rintro e w6 ⟨g1, qb, rfl, hk, hm, hg, hq, hg1, hq1⟩
      have H6 := Lib.hid (And.intro hk (And.intro hm (And.intro hg hq)))
      have H6B := Lib.hid (HBt.out.drew.keeps hk (fun h => h.elim GBt.out.1 GBt.out.2.1))
      have HG1 := Lib.hid hg1
      clear hk hm hg hq hg1 hq1
      refine hK _ _ H6B.out.cell ?_
      clear hK K
      try simp only [y0, y1, y2, y3, y4, y5, y6]
      refine anyH_one 11 (by kernel_rfl) rfl (by rfl) (fun K hK => ?_)
      go_simp
      refine hK _ _ (H6B.out.alloc _).cell ?_
      clear hK K
      try simp only [y0, y1, y2, y3, y4, y5, y6]
      refine anyH_one 12 (by kernel_rfl) rfl (by rfl) (fun K hK => ?_)
      refine app_nil elRp (.tmp 52) (.tmp 58) rfl rfl () w6.heap.size rfl (by exact Mem.news_new w6 _ (repL 0 0)) ?_
      intro rb rc w7 _ _ hk7
      obtain ⟨hk6, ⟨cc, hm6⟩, hg6, hq6⟩ := H6.out
      have k67 : Keeps (fun _ => False) w6 w7 := ((Keeps.refl (fun _ => False) w6).alloc _).trans hk7
      have HM7 := Lib.hid (hm6.kd k67)
      have HB7 := Lib.hid (H6B.out.keeps k67 (fun h => h))
      have HQ7 := Lib.hid (And.intro (k67.cell hg6 (fun h => h)) (hq6.keeps k67 (fun h => h)))
      have K7 := Lib.hid ((((KW4.out.then K5.out.drew (fun i _ h => h.elim)).then hk6 (fun i _ e => by have := G3.out; rcases e with rfl | rfl <;> omega)).then k67 (fun i _ h => h.elim)))
      have GG := Lib.hid (show g1 ≠ mb ∧ qb ≠ mb from ⟨fun e => (by
        have h1 := HG1.out
        have h2 := HM5.out.m.lt
        have h3 : w5.drew.heap.size = w5.heap.size := rfl
        omega), fun e => hm6.m.ne_ (e ▸ hq6) (by decide) rfl⟩)
      clear hk6 hm6 hg6 hq6 hk7 k67
      refine hK _ _ HB7.out.cell ?_
      clear hK K
      try simp only [y0, y1, y2, y3, y4, y5, y6]
      refine tK 13 HB7.out.cell ?_
      refine tK 14 HB7.out.cell ?_
      refine tK 15 HB7.out.cell ?_
      refine anyH_one 16 (by kernel_rfl) rfl (by rfl) (fun K hK => ?_)
      have cm := HM7.out.m.cell
      have fm := HM7.out.m.frozen
      go_simp
      clear cm fm
      refine hK _ _ ((HB7.out.far (p := ⟨mb, 21, none⟩) GBt.out.2.2 _).cell) ?_
      clear hK K hS0
      try simp only [y0, y1, y2, y3, y4, y5, y6]
      refine wpAnyH_done (by kernel_rfl) ?_ _
      obtain ⟨w8, hw8⟩ : ∃ w8, w8 = w7.setCell ⟨mb, 21, none⟩ (.slice (some ⟨rb, 0, none⟩) 1 rc) := ⟨_, rfl⟩
      have k78 : Keeps (fun k => k = mb) w7 w8 := by rw [hw8]; exact (Keeps.refl (fun k => k = mb) w7).setCell (p := ⟨mb, 21, none⟩) (fun _ => rfl) _
      have HM8 := Lib.hid (show MS w8 mb kb fb tb lb ob xb zb (.slice (some ⟨rb, 0, none⟩) 1 rc) (.slice none 0 0) (.slice none 0 0) (.slice (some ⟨g1, 0, none⟩) 1 cc) #[⟨.int .u32 3, .int .u32 1, 0⟩] #[] 1 0 from ⟨by rw [hw8]; exact HM7.out.m.set_ 21 _, HM7.out.l.keeps k78 (Ne.symm HM7.out.ml), HM7.out.k.keeps k78 (Ne.symm HM7.out.mkb), HM7.out.o.keeps k78 (Ne.symm HM7.out.mo), HM7.out.x.keeps k78 (Ne.symm HM7.out.mx), HM7.out.ko, HM7.out.kx, HM7.out.ox⟩)
      have HQ8 := Lib.hid (And.intro (k78.cell HQ7.out.1 GG.out.1) (HQ7.out.2.keeps k78 GG.out.2))
      have K8 := Lib.hid (K7.out.then k78 (fun i _ e => by have := G4.out; omega))
      (try rw [← hw8])
      clear hw8 k78
      have hl := HL.out
      have HA8 := Lib.hid (And.intro (HA2.out.1.keeps K8.out (by omega)) (HA2.out.2.1.keeps K8.out (by omega)))
      have hs8 := HA8.out.1.cell
      have ha8 := fun o => (HA8.out.2.alloc o).cell
      clear hl
      go_wp2
      rw [rounds_succ]
      go_wp2
      clear hs8 ha8
      obtain ⟨Bu, hBu⟩ : ∃ B, B = w8.heap.size := ⟨_, rfl⟩
      obtain ⟨w9, hw9⟩ : ∃ w9, w9 = w8.alloc (.cells #[.int .u8 2, .int .i64 0, .int .i64 0, .int .i64 0, (.slice none 0 0)] 77) := ⟨_, rfl⟩
      have K89 := Lib.hid (show Keeps (fun _ => False) w8 w9 from by rw [hw9]; (repeat (first | exact Keeps.refl _ _ | refine Keeps.drew ?_ | refine Keeps.alloc ?_ _)))
      have HBU := Lib.hid (show ∀ W, Keeps (fun _ => False) w9 W → Blk W Bu 77 [.int .u8 2, .int .i64 0, .int .i64 0, .int .i64 0, (.slice none 0 0)] ∧ Blk W ab 59 [.int .i64 1, .int .i64 1] from fun W k => ⟨Blk.keeps (by rw [hw9, hBu]; exact Blk.new w8 _ _) k (fun h => h), (HA8.out.2.keeps K89.out (fun h => h)).keeps k (fun h => h)⟩)
      have GU := Lib.hid (show Bu ≠ lb ∧ Bu ≠ ob ∧ ab ≠ lb ∧ ab ≠ ob from ⟨by have := HM8.out.l.lt; omega, by have := HM8.out.o.lt; omega, by have := HL.out; have := G3.out; omega, by have := HL.out; have := G3.out; omega⟩)
      (try rw [← hw9])
      (try rw [← hBu])
      clear hw9 hBu
      have HLN := Lib.hid (fun W (k : Keeps (fun _ => False) w8 W) => lane_no g1 cc qb W (HM8.out.kd k) (k.cell HQ8.out.1 (fun h => h)) (HQ8.out.2.keeps k (fun h => h)))
      go_region_held3 (fun W => ((∀ i : Nat, W.cell? ⟨Bu, i, none⟩ = ([.int .u8 2, .int .i64 0, .int .i64 0, .int .i64 0, (.slice none 0 0)] : List Value)[i]?) ∧ (∀ i : Nat, W.cell? ⟨ab, i, none⟩ = ([.int .i64 1, .int .i64 1] : List Value)[i]?))) (first | with_reducible assumption | exact ⟨(HBU.out _ (by (repeat (first | exact Keeps.refl _ _ | refine Keeps.drew ?_ | refine Keeps.alloc ?_ _)))).1.cell, (HBU.out _ (by (repeat (first | exact Keeps.refl _ _ | refine Keeps.drew ?_ | refine Keeps.alloc ?_ _)))).2.cell⟩) (first | (go_at_call 25; (with_reducible refine (HLN.out _ (by (repeat (first | exact K89.out | refine Keeps.drew ?_ | refine Keeps.alloc ?_ _)))).mono ?_); rintro e wx ⟨rfl, hk⟩; have KX := Lib.hid ((K8.out.then (show Keeps (fun _ => False) w8 _ from by (repeat (first | exact K89.out | refine Keeps.drew ?_ | refine Keeps.alloc ?_ _))) (fun i _ h => h.elim)).then hk (fun i _ h => h.elim)); have hSx : ((∀ i : Nat, wx.cell? ⟨Bu, i, none⟩ = ([.int .u8 2, .int .i64 0, .int .i64 0, .int .i64 0, (.slice none 0 0)] : List Value)[i]?) ∧ (∀ i : Nat, wx.cell? ⟨ab, i, none⟩ = ([.int .i64 1, .int .i64 1] : List Value)[i]?)) := ⟨((HBU.out _ (by (repeat (first | exact Keeps.refl _ _ | refine Keeps.drew ?_ | refine Keeps.alloc ?_ _)))).1.keeps hk (fun h => h)).cell, ((HBU.out _ (by (repeat (first | exact Keeps.refl _ _ | refine Keeps.drew ?_ | refine Keeps.alloc ?_ _)))).2.keeps hk (fun h => h)).cell⟩; have HB4y := Lib.hid (HB4.out.keeps KX.out (by have := HL.out; omega)); clear hk))
      go_wp2_with (with_reducible refine wpList_store_blk rfl 54 (.tmp 4) (.tmp 102) rfl B4 0 54 idL0 idL0.toArray rfl rfl HB4y.out (by simp) (by kernel_rfl) (by simp [Value.oneCell']) ?_; intro wz hbz hgz hsz; have HZZ := Lib.hid (And.intro hbz hgz); clear hbz hgz hsz)
      have z2 := K2.out.1.size
      have z3 := KX.out.size
      have hz := HZ.out
      refine bodyPost_ret (results_row_tmp rfl _ _ _ _ _ _ _ rfl (show Blk wz B4 54 idL0 from HZZ.out.1) Tryz.underlying54 rfl (by kernel_rfl)) rfl ?_
      exact ⟨rfl, (K2.out.1.then KX.out (fun i hi h => by omega)).grown HZZ.out.2 (fun k hk e => by cases e; omega)⟩
    · go_simp
      go_at_call 24
      (with_reducible refine HAD.out.mono ?_)
      rintro e w6 ⟨g1, qb, rfl, hk, hm, hg, hq, hg1, hq1⟩
      have H6 := Lib.hid (And.intro hk (And.intro hm (And.intro hg hq)))
      have H6B := Lib.hid (HBt.out.drew.keeps hk (fun h => h.elim GBt.out.1 GBt.out.2.1))
      have HG1 := Lib.hid hg1
      clear hk hm hg hq hg1 hq1
      refine hK _ _ H6B.out.cell ?_
      clear hK K
      try simp only [y0, y1, y2, y3, y4, y5, y6]
      refine anyH_two 5 11 (by kernel_rfl) rfl (by rfl) rfl (by rfl) (fun K hK => ?_) (fun K hK => ?_)
      · have q := H6.out.2.1.choose_spec.m.cell
        go_simp
        refine hK _ _ H6B.out.cell ?_
        clear hK K q
        try simp only [y0, y1, y2, y3, y4, y5, y6]
        refine anyH_one 11 (by kernel_rfl) rfl (by rfl) (fun K hK => ?_)
        go_simp
        refine hK _ _ (H6B.out.alloc _).cell ?_
        clear hK K
        try simp only [y0, y1, y2, y3, y4, y5, y6]
        refine anyH_one 12 (by kernel_rfl) rfl (by rfl) (fun K hK => ?_)
        refine app_nil elRp (.tmp 52) (.tmp 58) rfl rfl () w6.heap.size rfl (by exact Mem.news_new w6 _ (repL 0 0)) ?_
        intro rb rc w7 _ _ hk7
        obtain ⟨hk6, ⟨cc, hm6⟩, hg6, hq6⟩ := H6.out
        have k67 : Keeps (fun _ => False) w6 w7 := ((Keeps.refl (fun _ => False) w6).alloc _).trans hk7
        have HM7 := Lib.hid (hm6.kd k67)
        have HB7 := Lib.hid (H6B.out.keeps k67 (fun h => h))
        have HQ7 := Lib.hid (And.intro (k67.cell hg6 (fun h => h)) (hq6.keeps k67 (fun h => h)))
        have K7 := Lib.hid ((((KW4.out.then K5.out.drew (fun i _ h => h.elim)).then hk6 (fun i _ e => by have := G3.out; rcases e with rfl | rfl <;> omega)).then k67 (fun i _ h => h.elim)))
        have GG := Lib.hid (show g1 ≠ mb ∧ qb ≠ mb from ⟨fun e => (by
          have h1 := HG1.out
          have h2 := HM5.out.m.lt
          have h3 : w5.drew.heap.size = w5.heap.size := rfl
          omega), fun e => hm6.m.ne_ (e ▸ hq6) (by decide) rfl⟩)
        clear hk6 hm6 hg6 hq6 hk7 k67
        refine hK _ _ HB7.out.cell ?_
        clear hK K
        try simp only [y0, y1, y2, y3, y4, y5, y6]
        refine tK 13 HB7.out.cell ?_
        refine tK 14 HB7.out.cell ?_
        refine tK 15 HB7.out.cell ?_
        refine anyH_one 16 (by kernel_rfl) rfl (by rfl) (fun K hK => ?_)
        have cm := HM7.out.m.cell
        have fm := HM7.out.m.frozen
        go_simp
        clear cm fm
        refine hK _ _ ((HB7.out.far (p := ⟨mb, 21, none⟩) GBt.out.2.2 _).cell) ?_
        clear hK K hS0
        try simp only [y0, y1, y2, y3, y4, y5, y6]
        refine wpAnyH_done (by kernel_rfl) ?_ _
        obtain ⟨w8, hw8⟩ : ∃ w8, w8 = w7.setCell ⟨mb, 21, none⟩ (.slice (some ⟨rb, 0, none⟩) 1 rc) := ⟨_, rfl⟩
        have k78 : Keeps (fun k => k = mb) w7 w8 := by rw [hw8]; exact (Keeps.refl (fun k => k = mb) w7).setCell (p := ⟨mb, 21, none⟩) (fun _ => rfl) _
        have HM8 := Lib.hid (show MS w8 mb kb fb tb lb ob xb zb (.slice (some ⟨rb, 0, none⟩) 1 rc) (.slice none 0 0) (.slice none 0 0) (.slice (some ⟨g1, 0, none⟩) 1 cc) #[⟨.int .u32 3, .int .u32 1, 0⟩] #[] 1 0 from ⟨by rw [hw8]; exact HM7.out.m.set_ 21 _, HM7.out.l.keeps k78 (Ne.symm HM7.out.ml), HM7.out.k.keeps k78 (Ne.symm HM7.out.mkb), HM7.out.o.keeps k78 (Ne.symm HM7.out.mo), HM7.out.x.keeps k78 (Ne.symm HM7.out.mx), HM7.out.ko, HM7.out.kx, HM7.out.ox⟩)
        have HQ8 := Lib.hid (And.intro (k78.cell HQ7.out.1 GG.out.1) (HQ7.out.2.keeps k78 GG.out.2))
        have K8 := Lib.hid (K7.out.then k78 (fun i _ e => by have := G4.out; omega))
        (try rw [← hw8])
        clear hw8 k78
        have hl := HL.out
        have HA8 := Lib.hid (And.intro (HA2.out.1.keeps K8.out (by omega)) (HA2.out.2.1.keeps K8.out (by omega)))
        have hs8 := HA8.out.1.cell
        have ha8 := fun o => (HA8.out.2.alloc o).cell
        clear hl
        go_wp2
        rw [rounds_succ]
        go_wp2
        clear hs8 ha8
        obtain ⟨Bu, hBu⟩ : ∃ B, B = w8.heap.size := ⟨_, rfl⟩
        obtain ⟨w9, hw9⟩ : ∃ w9, w9 = w8.alloc (.cells #[.int .u8 2, .int .i64 0, .int .i64 0, .int .i64 0, (.slice none 0 0)] 77) := ⟨_, rfl⟩
        have K89 := Lib.hid (show Keeps (fun _ => False) w8 w9 from by rw [hw9]; (repeat (first | exact Keeps.refl _ _ | refine Keeps.drew ?_ | refine Keeps.alloc ?_ _)))
        have HBU := Lib.hid (show ∀ W, Keeps (fun _ => False) w9 W → Blk W Bu 77 [.int .u8 2, .int .i64 0, .int .i64 0, .int .i64 0, (.slice none 0 0)] ∧ Blk W ab 59 [.int .i64 1, .int .i64 1] from fun W k => ⟨Blk.keeps (by rw [hw9, hBu]; exact Blk.new w8 _ _) k (fun h => h), (HA8.out.2.keeps K89.out (fun h => h)).keeps k (fun h => h)⟩)
        have GU := Lib.hid (show Bu ≠ lb ∧ Bu ≠ ob ∧ ab ≠ lb ∧ ab ≠ ob from ⟨by have := HM8.out.l.lt; omega, by have := HM8.out.o.lt; omega, by have := HL.out; have := G3.out; omega, by have := HL.out; have := G3.out; omega⟩)
        (try rw [← hw9])
        (try rw [← hBu])
        clear hw9 hBu
        have HLN := Lib.hid (fun W (k : Keeps (fun _ => False) w8 W) => lane_no g1 cc qb W (HM8.out.kd k) (k.cell HQ8.out.1 (fun h => h)) (HQ8.out.2.keeps k (fun h => h)))
        go_region_held3 (fun W => ((∀ i : Nat, W.cell? ⟨Bu, i, none⟩ = ([.int .u8 2, .int .i64 0, .int .i64 0, .int .i64 0, (.slice none 0 0)] : List Value)[i]?) ∧ (∀ i : Nat, W.cell? ⟨ab, i, none⟩ = ([.int .i64 1, .int .i64 1] : List Value)[i]?))) (first | with_reducible assumption | exact ⟨(HBU.out _ (by (repeat (first | exact Keeps.refl _ _ | refine Keeps.drew ?_ | refine Keeps.alloc ?_ _)))).1.cell, (HBU.out _ (by (repeat (first | exact Keeps.refl _ _ | refine Keeps.drew ?_ | refine Keeps.alloc ?_ _)))).2.cell⟩) (first | (go_at_call 25; (with_reducible refine (HLN.out _ (by (repeat (first | exact K89.out | refine Keeps.drew ?_ | refine Keeps.alloc ?_ _)))).mono ?_); rintro e wx ⟨rfl, hk⟩; have KX := Lib.hid ((K8.out.then (show Keeps (fun _ => False) w8 _ from by (repeat (first | exact K89.out | refine Keeps.drew ?_ | refine Keeps.alloc ?_ _))) (fun i _ h => h.elim)).then hk (fun i _ h => h.elim)); have hSx : ((∀ i : Nat, wx.cell? ⟨Bu, i, none⟩ = ([.int .u8 2, .int .i64 0, .int .i64 0, .int .i64 0, (.slice none 0 0)] : List Value)[i]?) ∧ (∀ i : Nat, wx.cell? ⟨ab, i, none⟩ = ([.int .i64 1, .int .i64 1] : List Value)[i]?)) := ⟨((HBU.out _ (by (repeat (first | exact Keeps.refl _ _ | refine Keeps.drew ?_ | refine Keeps.alloc ?_ _)))).1.keeps hk (fun h => h)).cell, ((HBU.out _ (by (repeat (first | exact Keeps.refl _ _ | refine Keeps.drew ?_ | refine Keeps.alloc ?_ _)))).2.keeps hk (fun h => h)).cell⟩; have HB4y := Lib.hid (HB4.out.keeps KX.out (by have := HL.out; omega)); clear hk))
        go_wp2_with (with_reducible refine wpList_store_blk rfl 54 (.tmp 4) (.tmp 102) rfl B4 0 54 idL0 idL0.toArray rfl rfl HB4y.out (by simp) (by kernel_rfl) (by simp [Value.oneCell']) ?_; intro wz hbz hgz hsz; have HZZ := Lib.hid (And.intro hbz hgz); clear hbz hgz hsz)
        have z2 := K2.out.1.size
        have z3 := KX.out.size
        have hz := HZ.out
        refine bodyPost_ret (results_row_tmp rfl _ _ _ _ _ _ _ rfl (show Blk wz B4 54 idL0 from HZZ.out.1) Tryz.underlying54 rfl (by kernel_rfl)) rfl ?_
        exact ⟨rfl, (K2.out.1.then KX.out (fun i hi h => by omega)).grown HZZ.out.2 (fun k hk e => by cases e; omega)⟩
      · go_simp
        refine hK _ _ (H6B.out.alloc _).cell ?_
        clear hK K
        try simp only [y0, y1, y2, y3, y4, y5, y6]
        refine anyH_one 5 (by kernel_rfl) rfl (by rfl) (fun K hK => ?_)
        have q := fun o => (H6.out.2.1.choose_spec.m.alloc o).cell
        go_simp
        refine hK _ _ (H6B.out.alloc _).cell ?_
        clear hK K q
        try simp only [y0, y1, y2, y3, y4, y5, y6]
        refine anyH_one 12 (by kernel_rfl) rfl (by rfl) (fun K hK => ?_)
        refine app_nil elRp (.tmp 52) (.tmp 58) rfl rfl () w6.heap.size rfl (by exact Mem.news_new w6 _ (repL 0 0)) ?_
        intro rb rc w7 _ _ hk7
        obtain ⟨hk6, ⟨cc, hm6⟩, hg6, hq6⟩ := H6.out
        have k67 : Keeps (fun _ => False) w6 w7 := ((Keeps.refl (fun _ => False) w6).alloc _).trans hk7
        have HM7 := Lib.hid (hm6.kd k67)
        have HB7 := Lib.hid (H6B.out.keeps k67 (fun h => h))
        have HQ7 := Lib.hid (And.intro (k67.cell hg6 (fun h => h)) (hq6.keeps k67 (fun h => h)))
        have K7 := Lib.hid ((((KW4.out.then K5.out.drew (fun i _ h => h.elim)).then hk6 (fun i _ e => by have := G3.out; rcases e with rfl | rfl <;> omega)).then k67 (fun i _ h => h.elim)))
        have GG := Lib.hid (show g1 ≠ mb ∧ qb ≠ mb from ⟨fun e => (by
          have h1 := HG1.out
          have h2 := HM5.out.m.lt
          have h3 : w5.drew.heap.size = w5.heap.size := rfl
          omega), fun e => hm6.m.ne_ (e ▸ hq6) (by decide) rfl⟩)
        clear hk6 hm6 hg6 hq6 hk7 k67
        refine hK _ _ HB7.out.cell ?_
        clear hK K
        try simp only [y0, y1, y2, y3, y4, y5, y6]
        refine tK 13 HB7.out.cell ?_
        refine tK 14 HB7.out.cell ?_
        refine tK 15 HB7.out.cell ?_
        refine anyH_one 16 (by kernel_rfl) rfl (by rfl) (fun K hK => ?_)
        have cm := HM7.out.m.cell
        have fm := HM7.out.m.frozen
        go_simp
        clear cm fm
        refine hK _ _ ((HB7.out.far (p := ⟨mb, 21, none⟩) GBt.out.2.2 _).cell) ?_
        clear hK K hS0
        try simp only [y0, y1, y2, y3, y4, y5, y6]
        refine wpAnyH_done (by kernel_rfl) ?_ _
        obtain ⟨w8, hw8⟩ : ∃ w8, w8 = w7.setCell ⟨mb, 21, none⟩ (.slice (some ⟨rb, 0, none⟩) 1 rc) := ⟨_, rfl⟩
        have k78 : Keeps (fun k => k = mb) w7 w8 := by rw [hw8]; exact (Keeps.refl (fun k => k = mb) w7).setCell (p := ⟨mb, 21, none⟩) (fun _ => rfl) _
        have HM8 := Lib.hid (show MS w8 mb kb fb tb lb ob xb zb (.slice (some ⟨rb, 0, none⟩) 1 rc) (.slice none 0 0) (.slice none 0 0) (.slice (some ⟨g1, 0, none⟩) 1 cc) #[⟨.int .u32 3, .int .u32 1, 0⟩] #[] 1 0 from ⟨by rw [hw8]; exact HM7.out.m.set_ 21 _, HM7.out.l.keeps k78 (Ne.symm HM7.out.ml), HM7.out.k.keeps k78 (Ne.symm HM7.out.mkb), HM7.out.o.keeps k78 (Ne.symm HM7.out.mo), HM7.out.x.keeps k78 (Ne.symm HM7.out.mx), HM7.out.ko, HM7.out.kx, HM7.out.ox⟩)
        have HQ8 := Lib.hid (And.intro (k78.cell HQ7.out.1 GG.out.1) (HQ7.out.2.keeps k78 GG.out.2))
        have K8 := Lib.hid (K7.out.then k78 (fun i _ e => by have := G4.out; omega))
        (try rw [← hw8])
        clear hw8 k78
        have hl := HL.out
        have HA8 := Lib.hid (And.intro (HA2.out.1.keeps K8.out (by omega)) (HA2.out.2.1.keeps K8.out (by omega)))
        have hs8 := HA8.out.1.cell
        have ha8 := fun o => (HA8.out.2.alloc o).cell
        clear hl
        go_wp2
        rw [rounds_succ]
        go_wp2
        clear hs8 ha8
        obtain ⟨Bu, hBu⟩ : ∃ B, B = w8.heap.size := ⟨_, rfl⟩
        obtain ⟨w9, hw9⟩ : ∃ w9, w9 = w8.alloc (.cells #[.int .u8 2, .int .i64 0, .int .i64 0, .int .i64 0, (.slice none 0 0)] 77) := ⟨_, rfl⟩
        have K89 := Lib.hid (show Keeps (fun _ => False) w8 w9 from by rw [hw9]; (repeat (first | exact Keeps.refl _ _ | refine Keeps.drew ?_ | refine Keeps.alloc ?_ _)))
        have HBU := Lib.hid (show ∀ W, Keeps (fun _ => False) w9 W → Blk W Bu 77 [.int .u8 2, .int .i64 0, .int .i64 0, .int .i64 0, (.slice none 0 0)] ∧ Blk W ab 59 [.int .i64 1, .int .i64 1] from fun W k => ⟨Blk.keeps (by rw [hw9, hBu]; exact Blk.new w8 _ _) k (fun h => h), (HA8.out.2.keeps K89.out (fun h => h)).keeps k (fun h => h)⟩)
        have GU := Lib.hid (show Bu ≠ lb ∧ Bu ≠ ob ∧ ab ≠ lb ∧ ab ≠ ob from ⟨by have := HM8.out.l.lt; omega, by have := HM8.out.o.lt; omega, by have := HL.out; have := G3.out; omega, by have := HL.out; have := G3.out; omega⟩)
        (try rw [← hw9])
        (try rw [← hBu])
        clear hw9 hBu
        have HLN := Lib.hid (fun W (k : Keeps (fun _ => False) w8 W) => lane_no g1 cc qb W (HM8.out.kd k) (k.cell HQ8.out.1 (fun h => h)) (HQ8.out.2.keeps k (fun h => h)))
        go_region_held3 (fun W => ((∀ i : Nat, W.cell? ⟨Bu, i, none⟩ = ([.int .u8 2, .int .i64 0, .int .i64 0, .int .i64 0, (.slice none 0 0)] : List Value)[i]?) ∧ (∀ i : Nat, W.cell? ⟨ab, i, none⟩ = ([.int .i64 1, .int .i64 1] : List Value)[i]?))) (first | with_reducible assumption | exact ⟨(HBU.out _ (by (repeat (first | exact Keeps.refl _ _ | refine Keeps.drew ?_ | refine Keeps.alloc ?_ _)))).1.cell, (HBU.out _ (by (repeat (first | exact Keeps.refl _ _ | refine Keeps.drew ?_ | refine Keeps.alloc ?_ _)))).2.cell⟩) (first | (go_at_call 25; (with_reducible refine (HLN.out _ (by (repeat (first | exact K89.out | refine Keeps.drew ?_ | refine Keeps.alloc ?_ _)))).mono ?_); rintro e wx ⟨rfl, hk⟩; have KX := Lib.hid ((K8.out.then (show Keeps (fun _ => False) w8 _ from by (repeat (first | exact K89.out | refine Keeps.drew ?_ | refine Keeps.alloc ?_ _))) (fun i _ h => h.elim)).then hk (fun i _ h => h.elim)); have hSx : ((∀ i : Nat, wx.cell? ⟨Bu, i, none⟩ = ([.int .u8 2, .int .i64 0, .int .i64 0, .int .i64 0, (.slice none 0 0)] : List Value)[i]?) ∧ (∀ i : Nat, wx.cell? ⟨ab, i, none⟩ = ([.int .i64 1, .int .i64 1] : List Value)[i]?)) := ⟨((HBU.out _ (by (repeat (first | exact Keeps.refl _ _ | refine Keeps.drew ?_ | refine Keeps.alloc ?_ _)))).1.keeps hk (fun h => h)).cell, ((HBU.out _ (by (repeat (first | exact Keeps.refl _ _ | refine Keeps.drew ?_ | refine Keeps.alloc ?_ _)))).2.keeps hk (fun h => h)).cell⟩; have HB4y := Lib.hid (HB4.out.keeps KX.out (by have := HL.out; omega)); clear hk))
        go_wp2_with (with_reducible refine wpList_store_blk rfl 54 (.tmp 4) (.tmp 102) rfl B4 0 54 idL0 idL0.toArray rfl rfl HB4y.out (by simp) (by kernel_rfl) (by simp [Value.oneCell']) ?_; intro wz hbz hgz hsz; have HZZ := Lib.hid (And.intro hbz hgz); clear hbz hgz hsz)
        have z2 := K2.out.1.size
        have z3 := KX.out.size
        have hz := HZ.out
        refine bodyPost_ret (results_row_tmp rfl _ _ _ _ _ _ _ rfl (show Blk wz B4 54 idL0 from HZZ.out.1) Tryz.underlying54 rfl (by kernel_rfl)) rfl ?_
        exact ⟨rfl, (K2.out.1.then KX.out (fun i hi h => by omega)).grown HZZ.out.2 (fun k hk e => by cases e; omega)⟩
end Mw
end Go.Proofs.YtdaindihobfokaaGreatDoor
