/-
  GrG: Put at the one box of 'works'.
-/
import Derived.Test.YtppiohmnbffndaaGrF
namespace Go.Proofs.Ytppiohmnbffndaa
open Go.RowKit Go.Shelf
set_option linter.unusedVariables false
set_option linter.unusedSimpArgs false
attribute [local go_sem] Oper.semAt_some
namespace Gr
open Mem
/-- a grid that holds the one box -/
def PutG (w : World) (G r1 r2 r3 : Nat) : Prop := Blk w G 65 [.int .i64 10, .map (some r1), .map (some r2), .map (some r3)] ∧ Mp w r1 #[⟨.int .u32 4, .agg #[.int .i32 0, .int .i32 0, .int .i32 3, .int .i32 3], 0⟩] 1 ∧ (∃ g, Ent w r2 g) ∧ Mp w r3 #[] 0 ∧ r1 ≠ r2
set_option maxHeartbeats 4000000 in
set_option maxRecDepth 100000 in
theorem put_yes (w : World) (G r1 r2 r3 : Nat) (h : NewG w G r1 r2 r3) : Calls Try.prog 10 #[.pointer (some ⟨G, 0, none⟩), .int .u32 4, .agg #[.int .i32 0, .int .i32 0, .int .i32 3, .int .i32 3]] w fun e w' => e = .returned (.int .i64 0) ∧ PutG w' G r1 r2 r3 ∧ Keeps (fun k => k = r1 ∨ k = r2) w w' := by
  obtain ⟨hG, hM1, hM2, hM3, d12, d13, d23⟩ := h
  have k3 : Keeps (fun _ => False) w (((w.alloc (.cells #[.pointer (some ⟨G, 0, none⟩)] 27)).alloc (.cells #[.int .u32 4] 35)).alloc (.cells #[.int .i32 0, .int .i32 0, .int .i32 3, .int .i32 3] 37)) := by (repeat (first | exact Keeps.refl _ _ | refine Keeps.alloc ?_ _ | refine Keeps.drew ?_))
  have HT := Lib.hid (hG.keeps k3 (fun h => h))
  have b27 := ((Blk.new w 27 [.pointer (some ⟨G, 0, none⟩)]).alloc (.cells #[.int .u32 4] 35)).alloc (.cells #[.int .i32 0, .int .i32 0, .int .i32 3, .int .i32 3] 37)
  have b35 := (Blk.new (w.alloc (.cells #[.pointer (some ⟨G, 0, none⟩)] 27)) 35 [.int .u32 4]).alloc (.cells #[.int .i32 0, .int .i32 0, .int .i32 3, .int .i32 3] 37)
  have b37 := Blk.new ((w.alloc (.cells #[.pointer (some ⟨G, 0, none⟩)] 27)).alloc (.cells #[.int .u32 4] 35)) 37 [.int .i32 0, .int .i32 0, .int .i32 3, .int .i32 3]
  simp only [World.size_alloc] at b27 b35 b37
  have HB := Lib.hid (And.intro b27 (And.intro b35 b37))
  have cT := HT.out.cell
  have HK := Lib.hid k3
  have HM := Lib.hid (And.intro hM1 (And.intro hM2 hM3))
  have HD := Lib.hid (And.intro d12 (And.intro d13 d23))
  clear hG hM1 hM2 hM3 d12 d13 d23 b27 b35 b37 k3
  refine (callsIn_wide (n := 9)).1 ?_
  refine callsIn_of_wp_marks Try.func10 rfl trivial ?_ rfl
  simp only [Try.ntmps10, List.size_toArray, List.length_cons, List.length_nil, Nat.reduceAdd, Nat.reduceSub, Array.replicate_succ, Array.replicate_zero, List.push_toArray, List.append_toArray, List.nil_append, List.cons_append]
  gi_wp2_with (first
    | (refine ⟨trivial, ?_⟩; gi_at_call 23; refine (callsIn_wide.2 (there_yes _ G r1 r2 r3 HT.out)).mono ?_; rintro e w1 ⟨rfl, rfl⟩)
    | (refine ⟨trivial, ?_⟩; gi_at_call 24; refine (callsIn_wide.2 (right_yes _)).mono ?_; rintro e w4 ⟨rfl, hw⟩; have k4 : Keeps (fun _ => False) (((w.alloc (.cells #[.pointer (some ⟨G, 0, none⟩)] 27)).alloc (.cells #[.int .u32 4] 35)).alloc (.cells #[.int .i32 0, .int .i32 0, .int .i32 3, .int .i32 3] 37)) w4 := (by rw [← hw]; (repeat (first | exact Keeps.refl _ _ | refine Keeps.alloc ?_ _ | refine Keeps.drew ?_))); have hz4 : w.heap.size + 1 + 1 + 1 ≤ w4.heap.size := (by have := k4.size; simpa using this); clear hw))
  have HN := Lib.hid (show ∀ W', Keeps (fun k => k = r1 ∨ k = r2) w4 W' → Blk W' G 65 [.int .i64 10, .map (some r1), .map (some r2), .map (some r3)] ∧ Blk W' w.heap.size 27 [.pointer (some ⟨G, 0, none⟩)] ∧ Blk W' (w.heap.size + 1) 35 [.int .u32 4] ∧ Blk W' (w.heap.size + 1 + 1) 37 [.int .i32 0, .int .i32 0, .int .i32 3, .int .i32 3] from by
    intro W' hk
    have hn : ∀ k, (w.heap.size ≤ k ∨ k = G) → ¬ (k = r1 ∨ k = r2) := fun k hk he => by
      have h1 := HM.out.1.lt; have h2 := HM.out.2.1.lt
      rcases hk with hk | rfl
      · omega
      · have e1 := (HM.out.1.keeps HK.out (fun h => h)).ne HT.out; have e2 := (HM.out.2.1.keeps HK.out (fun h => h)).ne HT.out
        rcases he with he | he
        · exact e1 he
        · exact e2 he
    exact ⟨(HT.out.keeps k4 (fun h => h)).keeps hk (hn _ (.inr rfl)), (HB.out.1.keeps k4 (fun h => h)).keeps hk (hn _ (.inl (Nat.le_refl _))), (HB.out.2.1.keeps k4 (fun h => h)).keeps hk (hn _ (.inl (by omega))), (HB.out.2.2.keeps k4 (fun h => h)).keeps hk (hn _ (.inl (by omega)))⟩)
  have HSN := Lib.hid (show ∀ W', Keeps (fun k => k = r1 ∨ k = r2) w4 W' → (∀ i : Nat, W'.cell? ⟨w.heap.size, i, none⟩ = ([.pointer (some ⟨G, 0, none⟩)] : List Value)[i]?) ∧ (∀ i : Nat, W'.cell? ⟨w.heap.size + 1, i, none⟩ = ([.int .u32 4] : List Value)[i]?) ∧ (∀ i : Nat, W'.cell? ⟨w.heap.size + 1 + 1, i, none⟩ = ([.int .i32 0, .int .i32 0, .int .i32 3, .int .i32 3] : List Value)[i]?) ∧ (∀ i : Nat, W'.cell? ⟨G, i, none⟩ = ([.int .i64 10, .map (some r1), .map (some r2), .map (some r3)] : List Value)[i]?) from fun W' hk => by have hX := HN.out W' hk; exact ⟨hX.2.1.cell, hX.2.2.1.cell, hX.2.2.2.cell, hX.1.cell⟩)
  have HK4 := Lib.hid (HK.out.trans k4)
  clear k4 cT
  have hlk1 := lk61 (HM.out.1.keeps HK4.out (fun h => h)).drew
  have hlk2 := fun o => lk61 ((HM.out.1.keeps HK4.out (fun h => h)).alloc o).drew
  refine wpIn_wide.2 ?_
  go_region_held3 (fun W => (∀ i : Nat, W.cell? ⟨w.heap.size, i, none⟩ = ([.pointer (some ⟨G, 0, none⟩)] : List Value)[i]?) ∧ (∀ i : Nat, W.cell? ⟨w.heap.size + 1, i, none⟩ = ([.int .u32 4] : List Value)[i]?) ∧ (∀ i : Nat, W.cell? ⟨w.heap.size + 1 + 1, i, none⟩ = ([.int .i32 0, .int .i32 0, .int .i32 3, .int .i32 3] : List Value)[i]?) ∧ (∀ i : Nat, W.cell? ⟨G, i, none⟩ = ([.int .i64 10, .map (some r1), .map (some r2), .map (some r3)] : List Value)[i]?)) (first | with_reducible assumption | exact HSN.out _ (by (repeat (first | exact Keeps.refl _ _ | refine Keeps.alloc ?_ _ | refine Keeps.drew ?_)))) (first | fail)
  all_goals
    gi_wp2
    refine (show ∀ Wx, Keeps (fun _ => False) w4 Wx → Code.wpIn _ _ _ _ _ _ Wx from ?_) _ (by (repeat (first | exact Keeps.refl _ _ | refine Keeps.alloc ?_ _ | refine Keeps.drew ?_)))
    clear hlk1 hlk2
    intro Wx hk5
    have hM1 := HM.out.1.keeps (HK4.out.trans hk5) (fun h => h)
    have hup := up61 hM1.drew (.agg #[.int .i32 0, .int .i32 0, .int .i32 3, .int .i32 3])
    have hk6 : Keeps (fun k => k = r1 ∨ k = r2) w4 Wx := hk5.mono (fun _ _ h => h.elim)
    have HK6 := Lib.hid (hk6.drew.trans ((setM_keeps Wx.drew r1 #[⟨.int .u32 4, .agg #[.int .i32 0, .int .i32 0, .int .i32 3, .int .i32 3], 0⟩] 1).mono (fun _ _ h => .inl h)))
    have HM1 := Lib.hid (setM_mp hM1.drew #[⟨.int .u32 4, .agg #[.int .i32 0, .int .i32 0, .int .i32 3, .int .i32 3], 0⟩] 1)
    have HM2 := Lib.hid (((HM.out.2.1.keeps (HK4.out.trans hk5) (fun h => h)).drew).keeps (setM_keeps Wx.drew r1 #[⟨.int .u32 4, .agg #[.int .i32 0, .int .i32 0, .int .i32 3, .int .i32 3], 0⟩] 1) (fun e => HD.out.1 e.symm))
    have HM3 := Lib.hid (((HM.out.2.2.keeps (HK4.out.trans hk5) (fun h => h)).drew).keeps (setM_keeps Wx.drew r1 #[⟨.int .u32 4, .agg #[.int .i32 0, .int .i32 0, .int .i32 3, .int .i32 3], 0⟩] 1) (fun e => HD.out.2.1 e.symm))
    clear hM1 hk5
    refine wpIn_wide.2 ?_
    go_region_held3 (fun W => (∀ i : Nat, W.cell? ⟨w.heap.size, i, none⟩ = ([.pointer (some ⟨G, 0, none⟩)] : List Value)[i]?) ∧ (∀ i : Nat, W.cell? ⟨w.heap.size + 1, i, none⟩ = ([.int .u32 4] : List Value)[i]?) ∧ (∀ i : Nat, W.cell? ⟨w.heap.size + 1 + 1, i, none⟩ = ([.int .i32 0, .int .i32 0, .int .i32 3, .int .i32 3] : List Value)[i]?) ∧ (∀ i : Nat, W.cell? ⟨G, i, none⟩ = ([.int .i64 10, .map (some r1), .map (some r2), .map (some r3)] : List Value)[i]?)) (first | with_reducible assumption | exact HSN.out _ (by first | exact HK6.out | exact hk6.drew | (repeat (first | exact Keeps.refl _ _ | refine Keeps.alloc ?_ _ | refine Keeps.drew ?_)))) (first | fail)
    obtain ⟨Wy, hWy⟩ : ∃ Wy, Wy = setM Wx.drew r1 #[⟨.int .u32 4, .agg #[.int .i32 0, .int .i32 0, .int .i32 3, .int .i32 3], 0⟩] 1 := ⟨_, rfl⟩
    rw [← hWy] at HK6 HM1 HM2 HM3 ⊢
    clear hWy hup hk6
    gi_wp2
    refine wpIn_wide.2 ?_
    go_region_held3 (fun W => (∀ i : Nat, W.cell? ⟨w.heap.size, i, none⟩ = ([.pointer (some ⟨G, 0, none⟩)] : List Value)[i]?) ∧ (∀ i : Nat, W.cell? ⟨w.heap.size + 1, i, none⟩ = ([.int .u32 4] : List Value)[i]?) ∧ (∀ i : Nat, W.cell? ⟨w.heap.size + 1 + 1, i, none⟩ = ([.int .i32 0, .int .i32 0, .int .i32 3, .int .i32 3] : List Value)[i]?) ∧ (∀ i : Nat, W.cell? ⟨G, i, none⟩ = ([.int .i64 10, .map (some r1), .map (some r2), .map (some r3)] : List Value)[i]?)) (first | with_reducible assumption | exact HSN.out _ (by first | exact HK6.out.drew | exact HK7.out)) (first
      | (go_at_call 25; (with_reducible refine (count_yes _).mono ?_); rintro e w7 ⟨rfl, hk7⟩; have HK7 := Lib.hid (HK6.out.trans ((((Keeps.refl _ Wy).drew).trans hk7).mono (fun _ _ h => h.elim))); have HY7 := Lib.hid (((Keeps.refl _ Wy).drew).trans hk7); clear hk7))
    gi_wp2
    have HK8 := Lib.hid (show Keeps (fun k => k = r1 ∨ k = r2) w4 ((w7.drew.alloc (.cells #[.int .i32 0, .int .i32 0, .int .i32 3, .int .i32 3] 37)).alloc (.cells #[.int .i64 10] 2)) from (HK7.out.drew.alloc _).alloc _)
    refine wpIn_wide.2 ?_
    go_region_held3 (fun W => (∀ i : Nat, W.cell? ⟨w.heap.size, i, none⟩ = ([.pointer (some ⟨G, 0, none⟩)] : List Value)[i]?) ∧ (∀ i : Nat, W.cell? ⟨w.heap.size + 1, i, none⟩ = ([.int .u32 4] : List Value)[i]?) ∧ (∀ i : Nat, W.cell? ⟨w.heap.size + 1 + 1, i, none⟩ = ([.int .i32 0, .int .i32 0, .int .i32 3, .int .i32 3] : List Value)[i]?) ∧ (∀ i : Nat, W.cell? ⟨G, i, none⟩ = ([.int .i64 10, .map (some r1), .map (some r2), .map (some r3)] : List Value)[i]?)) (first | with_reducible assumption | exact HSN.out _ (by first | exact HK7.out.drew | exact HK8.out)) (first
      | (go_at_call 26; (with_reducible refine (cover_any _).mono ?_); rintro e w8 ⟨rfl, rfl⟩))
    gi_wp2
    refine (show ∀ Wz, Keeps (fun _ => False) w7 Wz → Blk Wz (w7.heap.size + 1) 2 [.int .i64 10] → Blk Wz w7.heap.size 37 [.int .i32 0, .int .i32 0, .int .i32 3, .int .i32 3] → Code.wpIn _ _ _ _ _ _ Wz from ?_) _ (by (repeat (first | exact Keeps.refl _ _ | refine Keeps.alloc ?_ _ | refine Keeps.drew ?_))) (by have := (Blk.new (w7.alloc (.cells #[.int .i32 0, .int .i32 0, .int .i32 3, .int .i32 3] 37)) 2 [.int .i64 10]).drew; simpa only [World.size_alloc] using this) ((Blk.new w7 37 [.int .i32 0, .int .i32 0, .int .i32 3, .int .i32 3]).alloc _).drew
    intro Wz kz hSB hBB
    have hkz := HK7.out.trans (kz.mono (T := fun k => k = r1 ∨ k = r2) (fun _ _ h => h.elim))
    have hyz := HY7.out.trans kz
    obtain ⟨hGz, b27, b35, b37⟩ := HN.out _ hkz
    have hM2 := HM2.out.keeps hyz (fun h => h)
    have HM1 := Lib.hid (HM1.out.keeps hyz (fun h => h))
    have HM3 := Lib.hid (HM3.out.keeps hyz (fun h => h))
    have hW := HK4.out.mono (T := fun k => k = r1 ∨ k = r2) (fun _ _ h => h.elim)
    have HKZ := Lib.hid (hW.trans hkz)
    refine wpIn_range (gf := 48) (lb := #[.pointer (some ⟨w7.heap.size + 1, 0, none⟩), .pointer (some ⟨w7.heap.size, 0, none⟩)]) (encs := fun c : Int × Int => #[.agg #[.int .i32 c.1, .int .i32 c.2]]) (xs := [(0, 0)]) (A := fun _ => True) rfl (enters_of Try.func48 (by kernel_rfl) rfl)
      (fun W1 hk => cover1_gives 8 _ _ W1 (hSB.keeps hk (fun h => h)) (hBB.keeps hk (fun h => h))) (fun _ => rfl)
      (PutI Wz r2) (fun _ _ _ _ => False) (puti_stab Wz r2) (fun _ _ _ _ _ _ h => h.elim)
      (fun k => k = r2) (fun k hk => by rw [hk]; exact hM2.lt) ⟨Keeps.refl _ _, .inl ⟨rfl, hM2, fun _ => Iff.rfl⟩⟩ (fun _ _ => trivial)
      (PutM Wz G r2 w.heap.size (w.heap.size + 1)) (putm_stab Wz G r2 _ _) ?assign ?body ?done ?stop
    case assign =>
      intro l pre x rest S W hxs hI hin hlt
      obtain ⟨rfl, rfl, rfl⟩ : pre = [] ∧ x = (0, 0) ∧ rest = [] := by
        rcases pre with _ | ⟨p, pre⟩
        · simp at hxs; exact ⟨rfl, hxs.1.symm, hxs.2⟩
        · simp at hxs
      obtain ⟨h1, (⟨_, h2, h3⟩ | ⟨h2, _⟩)⟩ := hI
      · gi_wp2
        refine ⟨fun k => k = r2 ∨ k = W.heap.size, ⟨(Keeps.refl S W).alloc _, fun k hk => ?_⟩, fun k hk => ?_, W.heap.size, ⟨rfl, rfl, by simp⟩, Blk.new W 73 [.int .i32 0, .int .i32 0], h1.alloc _, fun _ => h2.alloc _, fun _ => Iff.rfl⟩
        · rcases hk with h | h
          · exact .inl ((h3 k).2 h)
          · exact .inr (by omega)
        · have := h2.lt
          simp
          rcases hk with h | h <;> omega
      · exact absurd rfl h2
    case body =>
      intro l pre x rest a1 S W hxs hM hin hlt
      obtain ⟨rfl, rfl, rfl⟩ : pre = [] ∧ x = (0, 0) ∧ rest = [] := by
        rcases pre with _ | ⟨p, pre⟩
        · simp at hxs; exact ⟨rfl, hxs.1.symm, hxs.2⟩
        · simp at hxs
      exact put_body l Wz G r1 r2 r3 _ _ hGz b27 b35 hM2 S W a1 hM hin
    case done =>
      rintro D S' W' hD hnD hf hin ⟨h1, (⟨h2, _⟩ | ⟨_, g, hg, ⟨cap, h3, h4⟩, h5⟩)⟩ hDD
      · cases h2
      · have e1 := hM2.ne hGz
        have HE := Lib.hid (And.intro hGz e1)
        have HH := Lib.hid (And.intro h1 (And.intro h3 (And.intro h4 h5)))
        have kp := keeps_putObj W' D (.deferred none)
        have HP := Lib.hid kp
        clear kp h1 h3 h4 h5 hGz b27 b35 b37 hM2 hkz hyz hW hSB hBB kz e1
        gi_wp2
        refine ⟨by simp, .inl ⟨_, _, rfl, run_takeDeferred hDD, ?_⟩⟩
        obtain ⟨h1, h3, h4, h5⟩ := HH.out
        obtain ⟨hGz, e1⟩ := HE.out
        have hz := hGz.lt
        have l1 := HM1.out.lt
        have l3 := HM3.out.lt
        refine ⟨_, results_tmp rfl _ _ _, rfl, ⟨(hGz.keeps h1 e1).keeps HP.out (fun e => by omega), ((HM1.out.keeps h1 HD.out.1)).keeps HP.out (fun e => by omega), ⟨g, cap, h3.keeps HP.out (fun e => hnD (e ▸ (h5 _).2 (.inl rfl))), owns_keeps h4 HP.out (fun b hb e => hnD ((h5 _).2 (.inr (by simp [Value.ownBlock] at hb; omega))))⟩, (HM3.out.keeps h1 (fun e => HD.out.2.2 e.symm)).keeps HP.out (fun e => by omega), HD.out.1⟩, ?_⟩
        have hsz := HKZ.out.size
        exact ((HKZ.out).then h1 (fun i hi e => .inr e)).then HP.out (fun i hi e => by omega)
    case stop =>
      intro D c0 pre S' W' hD hnD hf hin hpre hx
      exact hx.elim
end Gr
end Go.Proofs.Ytppiohmnbffndaa
