/-
  FlY: RealAll.
-/
import Derived.Test.YtdhelpbhbhihaaaGreatDoorFlX
import Derived.Test.YtdhelpbhbhihaaaGreatDoorFlV
import Derived.ChangeSlices
namespace Go.Proofs.YtdhelpbhbhihaaaGreatDoor
open Go.RowKit
set_option linter.unusedVariables false
set_option linter.unusedSimpArgs false
attribute [local go_sem] Oper.semAt_some
namespace Fl
open Mem Rl
attribute [local go_sem] run_add run_sub run_quo
/-- a row of whole numbers that came in -/
def RowI (w : World) (a : Option Addr) (zs : List Int) : Prop := ∀ (i : Nat) (z : Int), zs[i]? = some z → ∃ g o, a = some ⟨g, o, none⟩ ∧ w.cell? ⟨g, o + i, none⟩ = some (.int .i64 z)
theorem RowI.below {w w' : World} {a : Option Addr} {zs : List Int} (h : RowI w a zs) (k : Below w.heap.size w w') : RowI w' a zs := fun i z hz => by
  obtain ⟨g, o, rfl, hc⟩ := h i z hz
  have hg : g < w.heap.size := by
    rcases Nat.lt_or_ge g w.heap.size with h' | h'
    · exact h'
    · simp [World.cell?, Array.getElem?_eq_none h'] at hc
  exact ⟨g, o, rfl, (k.cell (p := ⟨g, o + i, none⟩) hg).trans hc⟩
abbrev fi (z : Int) : Nat := floatOfInt .f64 z
theorem rowF_own {w : World} {base n cap : Nat} {la : Option Addr} {e : TypeId} {l : List Int} (h : w.ownsRow base e 1 (.slice la n cap) n ((l.map fi).flatMap ff)) (hn : n = l.length) : RowF w la (l.map fi) := by
  refine ⟨fun i x hx => ?_, fun i x hx => ?_⟩
  · have hi : i < n := by
      have := (List.getElem?_eq_some_iff.1 hx).1
      rw [List.length_map] at this
      omega
    obtain ⟨k, rfl⟩ : ∃ k, n = k + 1 := ⟨n - 1, by omega⟩
    obtain ⟨g, c, hv⟩ := ownsRow_succ h
    simp only [Value.slice.injEq] at hv
    obtain ⟨rfl, -, rfl⟩ := hv
    obtain ⟨hb, cs, B, G⟩ := own_blk h
    exact ⟨g, rfl, by rw [B.cell i]; exact G i x hx⟩
  · rw [List.getElem?_map, Option.map_eq_some_iff] at hx
    obtain ⟨z, -, rfl⟩ := hx
    exact foi_lt z
theorem drop_new {w : World} {g : Nat} {zs : List Int} (R : RowF w (some ⟨g, 0, none⟩) (zs.map fi)) (k : Nat) : ∀ j u, (((zs.drop k).map fi).flatMap ff)[j]? = some u → w.cell? ((⟨g, k, none⟩ : Addr).add j) = some u := by
  intro j u hu
  rw [ff_get, List.getElem?_map, List.getElem?_drop] at hu
  cases hz : zs[k + j]? with
  | none => rw [hz] at hu; cases hu
  | some z =>
    rw [hz] at hu
    obtain ⟨g', hg, hc⟩ := R.1 (k + j) (fi z) (by rw [List.getElem?_map, hz]; rfl)
    simp only [Option.some.injEq, Addr.mk.injEq] at hg
    rw [Go.WideShapes.add_plain, hg.1, hc]
    exact hu
theorem take_new {w : World} {g : Nat} {zs : List Int} (R : RowF w (some ⟨g, 0, none⟩) (zs.map fi)) (k : Nat) : ∀ j u, (((zs.take k).map fi).flatMap ff)[j]? = some u → w.cell? ((⟨g, 0, none⟩ : Addr).add j) = some u := by
  intro j u hu
  rw [ff_get, List.getElem?_map, List.getElem?_take] at hu
  split at hu
  · cases hz : zs[j]? with
    | none => rw [hz] at hu; cases hu
    | some z =>
      rw [hz] at hu
      obtain ⟨g', hg, hc⟩ := R.1 j (fi z) (by rw [List.getElem?_map, hz]; rfl)
      simp only [Option.some.injEq, Addr.mk.injEq] at hg
      rw [Go.WideShapes.add_plain, Nat.zero_add, hg.1, hc]
      exact hu
  · cases hu
theorem own_l {w : World} {base n : Nat} {e : TypeId} {v : Value} {xs ys : List Value} (h : w.ownsRow base e 1 v n xs) (he : xs = ys) : w.ownsRow base e 1 v n ys := he ▸ h
set_option maxHeartbeats 16000000 in
set_option maxRecDepth 20000 in
theorem all_at (w : World) (ba : Option Addr) (n bc : Nat) (zs : List Int) (turn : Int) (h : RowI w ba zs) (hn : n = zs.length) (hl : n * 8 ≤ 140737488355328) (hz : ∀ z ∈ zs, -9223372036854775808 ≤ z ∧ z ≤ 9223372036854775807) (ht : -9223372036854775808 ≤ turn ∧ turn ≤ 9223372036854775807)
    (hL : ∀ W, Below w.heap.size w W → Calls Tryz.prog 7 #[] W fun e w' => e = .returned (.bool true) ∧ Below w.heap.size w w') :
    Calls Tryz.prog 3 #[.slice ba n bc, .int .i64 turn] w fun e w' => e = .returned (.bool true) ∧ Below w.heap.size w w' := by
  have hl2 : (n : Int) ≤ 17592186044416 := by omega
  have HL := Lib.hid hL
  have H := Lib.hid h
  have HN := Lib.hid (And.intro hn hz)
  clear hL h hn hz
  go_enter Tryz.func3, Tryz.ntmps3
  go_wp2
  go_loopw [5, 6, 7, 8, 9] (fun x s z q _ wr => ∃ (i : Nat) (la : Option Addr) (lc : Nat), q = .int .i64 (i : Int) ∧ i ≤ n ∧ x = .slice la i lc ∧ s = .int .i64 (tot (zs.take i)) ∧ z = .int .i64 (siz (zs.take i) : Int) ∧ siz (zs.take i) ≤ 9007199254740992 ∧ wr.ownsRow w.heap.size 25 1 (.slice la i lc) i (((zs.take i).map fi).flatMap ff) ∧ Below w.heap.size w wr) (fun _ _ _ q _ _ => n - (intOf q).toNat)
  case atStart => exact ⟨0, none, 0, rfl, by omega, rfl, rfl, rfl, by simp [siz], World.ownsRow_nil _ _ _ _, Below.refl _ _⟩
  case round =>
    obtain ⟨i, la, lc, rfl, hi, rfl, rfl, rfl, hsz, hO, hk⟩ := hrel
    have HO := Lib.hid hO
    have HK := Lib.hid hk
    have hx := HL.out wr hk
    by_cases hlt : i < n
    · have hltI : (i : Int) < (n : Int) := by omega
      obtain ⟨z, hz⟩ : ∃ z, zs[i]? = some z := ⟨_, List.getElem?_eq_getElem (by have := HN.out.1; omega)⟩
      obtain ⟨g, o, rfl, hc⟩ := H.out.below hk i z hz
      have htk := take_at hz
      have h1 : tot (zs.take (i + 1)) = tot (zs.take i) + z := by rw [htk, tot_app, tot_one]
      have h2 : siz (zs.take (i + 1)) = siz (zs.take i) + z.natAbs := by rw [htk, siz_app, siz_one]
      have h3 := tot_le (zs.take i)
      have HT := Lib.hid (And.intro htk (And.intro h1 h2))
      obtain ⟨S, hS⟩ : ∃ S, S = tot (zs.take i) := ⟨_, rfl⟩
      obtain ⟨Z, hZ⟩ : ∃ Z, Z = siz (zs.take i) := ⟨_, rfl⟩
      rw [← hS] at h3
      rw [← hZ] at hsz h3
      rw [← hS, ← hZ]
      have HS := Lib.hid (And.intro hS hZ)
      clear hO hk hz htk h1 h2 hS hZ
      by_cases c1 : z > 9007199254740992
      · go_wp2_with (go_at_call 7; with_reducible refine hx.mono ?_; rintro e w9 ⟨rfl, hB9⟩)
        go_ret
        exact ⟨rfl, hB9⟩
      · by_cases c2 : z < -9007199254740992
        · go_wp2_with (go_at_call 7; with_reducible refine hx.mono ?_; rintro e w9 ⟨rfl, hB9⟩)
          go_ret
          exact ⟨rfl, hB9⟩
        · by_cases c3 : z < 0
          · by_cases c4 : (Z : Int) - z > 9007199254740992
            · go_wp2_with (go_at_call 7; with_reducible refine hx.mono ?_; rintro e w9 ⟨rfl, hB9⟩)
              go_ret
              exact ⟨rfl, hB9⟩
            · clear hx
              go_wp2_with (at_builtin; go_loud (refine app_b elF rfl (.tmp 45) (.tmp 48) rfl w.heap.size ((zs.take i).map fi) i la lc rfl (HO.out.alloc _) [fi z] 1 rfl ⟨wr.heap.size, 0, none⟩ 1 rfl (newF wr (fi z)) (by unfold maxLen; omega) (by omega) (by omega) (HK.out.alloc HK.out.size _).size ?_; intro g' cap' w5 hO5 hG5; have H5 := Lib.hid (And.intro hO5 hG5); clear hO5 hG5))
              go_roundw
              case rel =>
                refine ⟨i + 1, _, _, by rw [Int.natCast_add]; rfl, by omega, rfl, ?_, ?_, ?_, ?_, ?_⟩
                · rw [HT.out.2.1, ← HS.out.1]
                · rw [HT.out.2.2, ← HS.out.2]; congr 1; omega
                · rw [HT.out.2.2, ← HS.out.2]; omega
                · rw [HT.out.1, List.map_append]; exact H5.out.1
                · exact (HK.out.alloc HK.out.size _).grown H5.out.2 ((HK.out.alloc HK.out.size _).size) (fun k hk => (HO.out.lt k hk).1)
              case measure => simp only [intOf]; omega
          · by_cases c4 : (Z : Int) + z > 9007199254740992
            · go_wp2_with (go_at_call 7; with_reducible refine hx.mono ?_; rintro e w9 ⟨rfl, hB9⟩)
              go_ret
              exact ⟨rfl, hB9⟩
            · clear hx
              go_wp2_with (at_builtin; go_loud (refine app_b elF rfl (.tmp 45) (.tmp 48) rfl w.heap.size ((zs.take i).map fi) i la lc rfl (HO.out.alloc _) [fi z] 1 rfl ⟨wr.heap.size, 0, none⟩ 1 rfl (newF wr (fi z)) (by unfold maxLen; omega) (by omega) (by omega) (HK.out.alloc HK.out.size _).size ?_; intro g' cap' w5 hO5 hG5; have H5 := Lib.hid (And.intro hO5 hG5); clear hO5 hG5))
              go_roundw
              case rel =>
                refine ⟨i + 1, _, _, by rw [Int.natCast_add]; rfl, by omega, rfl, ?_, ?_, ?_, ?_, ?_⟩
                · rw [HT.out.2.1, ← HS.out.1]
                · rw [HT.out.2.2, ← HS.out.2]; congr 1; omega
                · rw [HT.out.2.2, ← HS.out.2]; omega
                · rw [HT.out.1, List.map_append]; exact H5.out.1
                · exact (HK.out.alloc HK.out.size _).grown H5.out.2 ((HK.out.alloc HK.out.size _).size) (fun k hk => (HO.out.lt k hk).1)
              case measure => simp only [intOf]; omega
    · have hltI : ¬ (i : Int) < (n : Int) := by omega
      have hin : i = n := by omega
      subst hin
      have etk : zs.take i = zs := List.take_of_length_le (by have := HN.out.1; omega)
      rw [etk] at hsz hO HO
      rw [etk]
      have ht3 := tot_le zs
      have HT := Lib.hid (And.intro hsz ht3)
      have hll : i ≤ 4611686018427387904 := by omega
      have R1 := rowF_own hO HN.out.1
      have HR1 := Lib.hid R1
      obtain ⟨S, hS⟩ : ∃ S, S = tot zs := ⟨_, rfl⟩
      have hSb : -9007199254740992 ≤ S ∧ S ≤ 9007199254740992 := by omega
      rw [← hS]
      have HS := Lib.hid hS
      clear hO hk hsz hx hS etk R1 ht3 hlt hi
      go_wp2_with (go_at_call 8; with_reducible refine (sum_t _ _ _ _ (zs.map fi) HR1.out (by rw [List.length_map]; exact HN.out.1) hll).mono ?_; rintro e w1 ⟨r1, rfl, hr1, -, hk1⟩; have o1 := sum_exact zs HT.out.1 r1 hr1; rw [← HS.out] at o1; have HK1 := Lib.hid hk1; clear hr1 hk1)
      clear o1
      go_loopw [10, 11] (fun y j wr2 => ∃ (m k : Nat) (lb : Option Addr) (lc2 : Nat), j = .int .i64 ((k : Int) - 1) ∧ m + k = i ∧ y = .slice lb m lc2 ∧ wr2.ownsRow w1.heap.size 25 1 (.slice lb m lc2) m (((zs.reverse.take m).map fi).flatMap ff) ∧ Keeps (fun _ => False) w1 wr2) (fun _ j _ => (intOf j + 1).toNat)
      case atStart => exact ⟨0, i, none, 0, rfl, by omega, rfl, World.ownsRow_nil _ _ _ _, Keeps.refl _ _⟩
      case round =>
        obtain ⟨m, k, lb, lc2, rfl, hmk, rfl, hO2, hk2⟩ := hrel
        have HO2 := Lib.hid hO2
        have HK2 := Lib.hid hk2
        have R2 := HR1.out.keeps (HK1.out.trans hk2) (fun _ _ h => h)
        cases k with
        | succ k' =>
          have ek : ((k' + 1 : Nat) : Int) - 1 = (k' : Int) := by omega
          rw [ek]
          have hk0 : (0 : Int) ≤ (k' : Int) := by omega
          have hki : (k' : Int) < (i : Int) := by omega
          obtain ⟨z, hz⟩ : ∃ z, zs[k']? = some z := ⟨_, List.getElem?_eq_getElem (by have := HN.out.1; omega)⟩
          have hrv : zs.reverse[m]? = some z := by
            rw [List.getElem?_reverse (by have := HN.out.1; omega), show zs.length - 1 - m = k' by have := HN.out.1; omega]
            exact hz
          obtain ⟨g1, rfl, hc1⟩ := R2.1 k' (fi z) (by rw [List.getElem?_map, hz]; rfl)
          have HT2 := Lib.hid (take_at hrv)
          clear hz hrv hO2 hk2 R2
          go_wp2_with (at_builtin; go_loud (refine app_b elF rfl (.tmp 62) (.tmp 67) rfl w1.heap.size ((zs.reverse.take m).map fi) m lb lc2 rfl (HO2.out.alloc _) [fi z] 1 rfl ⟨wr.heap.size, 0, none⟩ 1 rfl (newF wr (fi z)) (by unfold maxLen; omega) (by omega) (by omega) (HK2.out.alloc _).size ?_; intro g' cap' w5 hO5 hG5; have H5 := Lib.hid (And.intro hO5 hG5); clear hO5 hG5))
          go_roundw
          case rel =>
            refine ⟨m + 1, k', _, _, by rfl, by omega, rfl, ?_, ?_⟩
            · rw [HT2.out, List.map_append]; exact H5.out.1
            · exact (HK2.out.alloc _).grown H5.out.2 (fun k hk e => absurd (HO2.out.lt k e).1 (by omega))
          case measure => simp only [intOf]; omega
        | zero =>
          have em : m = i := by omega
          subst em
          have ek : ((0 : Nat) : Int) - 1 = -1 := by omega
          rw [ek]
          have e2 : zs.reverse.take m = zs.reverse := List.take_of_length_le (by have := HN.out.1; rw [List.length_reverse]; omega)
          rw [e2] at hO2
          have R3 := rowF_own hO2 (by rw [List.length_reverse]; exact HN.out.1)
          have HR3 := Lib.hid R3
          have HK3 := Lib.hid (HK1.out.trans hk2)
          have HR2 := Lib.hid R2
          have hxl := HL.out _ (HK.out.trans (((HK1.out.trans hk2).below (Nat.le_refl _) (fun _ _ h => h)).mono HK.out.size))
          have HX := Lib.hid (HK.out.trans (((HK1.out.trans hk2).below (Nat.le_refl _) (fun _ _ h => h)).mono HK.out.size))
          clear hO2 hk2 R2 R3 e2 hxl
          by_cases hm0 : m = 0
          · subst hm0
            go_wp2_with (first | (go_at_call 8; with_reducible refine (sum_t _ _ _ _ (zs.reverse.map fi) HR3.out (by rw [List.length_map, List.length_reverse]; exact HN.out.1) hll).mono ?_; rintro e w2 ⟨r2, rfl, hr2, -, hk2⟩; have o2 := sum_exact zs.reverse (by rw [siz_rev]; exact HT.out.1) r2 hr2; rw [tot_rev, ← HS.out] at o2; have HK2 := Lib.hid hk2; have HY := Lib.hid (HX.out.trans ((hk2.below (Nat.le_refl _) (fun _ _ h => h)).mono HX.out.size)); clear hr2 hk2) | (go_at_call 7; with_reducible refine (HL.out _ HY.out).mono ?_; rintro e w9 ⟨rfl, hB9⟩))
            go_ret
            exact ⟨rfl, hB9⟩
          · have hm1 : 0 < m := by omega
            have hmI : ¬ (m : Int) = 0 := by omega
            have hO1 := HO.out
            rw [show m = (m - 1) + 1 by omega] at hO1
            obtain ⟨g1, lc1, hv⟩ := ownsRow_succ hO1
            simp only [Value.slice.injEq] at hv
            obtain ⟨rfl, -, rfl⟩ := hv
            have hcap := own_cap HO.out
            clear hO1
            obtain ⟨T, hT⟩ : ∃ T, T = turn.tmod (m : Int) := ⟨_, rfl⟩
            have hT1 : -(m : Int) < T ∧ T < (m : Int) := by
              rw [hT]
              have h1 := Int.tmod_lt_of_pos turn (show (0 : Int) < (m : Int) by omega)
              have h2 := Int.lt_tmod_of_pos turn (show (0 : Int) < (m : Int) by omega)
              exact ⟨h2, h1⟩
            obtain ⟨k, hk⟩ : ∃ k : Nat, (T + (m : Int)).tmod (m : Int) = (k : Int) := by
              have := Int.tmod_nonneg (m : Int) (show 0 ≤ T + (m : Int) by omega)
              exact ⟨((T + (m : Int)).tmod (m : Int)).toNat, by omega⟩
            have hkm : k < m := by
              have := Int.tmod_lt_of_pos (T + (m : Int)) (show (0 : Int) < (m : Int) by omega)
              omega
            have hT2 := hT.symm
            clear hT
            go_wp2_with (first
              | (go_at_call 8; with_reducible refine (sum_t _ _ _ _ (zs.reverse.map fi) HR3.out (by rw [List.length_map, List.length_reverse]; exact HN.out.1) hll).mono ?_; rintro e w2 ⟨r2, rfl, hr2, -, hk2⟩; have o2 := sum_exact zs.reverse (by rw [siz_rev]; exact HT.out.1) r2 hr2; rw [tot_rev, ← HS.out] at o2; have HK2 := Lib.hid hk2; have HRx := Lib.hid (HR2.out.keeps hk2 (fun _ _ h => h)); have HY := Lib.hid (HX.out.trans ((hk2.below (Nat.le_refl _) (fun _ _ h => h)).mono HX.out.size)); clear hr2 hk2)
              | (at_builtin; go_loud (refine app_b elF rfl (.tmp 88) (.tmp 91) rfl w2.heap.size ([] : List Nat) 0 none 0 rfl (World.ownsRow_nil _ _ _ _) ((zs.drop k).map fi) (m - k) (by rw [List.length_map, List.length_drop]; have := HN.out.1; omega) ⟨g1, k, none⟩ (lc - k) rfl (drop_new HRx.out k) (by unfold maxLen; omega) (by omega) (by omega) (Nat.le_refl _) ?_; intro g5 cap5 w5 hO5 hG5; have hk5 := ((Keeps.refl (fun _ => False) w2).grown hG5 (fun k _ e => by cases e)); have HO5 := Lib.hid (own_n hO5 (Nat.zero_add (m - k))); have HK5 := Lib.hid hk5; have HRy := Lib.hid (HRx.out.keeps hk5 (fun _ _ h => h)); clear hO5 hG5 hk5))
              | (at_builtin; go_loud (refine app_b elF rfl (.tmp 93) (.tmp 96) rfl w2.heap.size (([] : List Nat) ++ (zs.drop k).map fi) (m - k) (some ⟨g5, 0, none⟩) cap5 rfl HO5.out ((zs.take k).map fi) k (by rw [List.length_map, List.length_take]; have := HN.out.1; omega) ⟨g1, 0, none⟩ lc rfl (take_new HRy.out k) (by unfold maxLen; omega) (by omega) (by omega) (HK5.out.size) ?_; intro g6 cap6 w6 hO6 hG6; have hk6 := HK5.out.grown hG6 (fun k hk e => absurd (HO5.out.lt k e).1 (by omega)); have HO6 := Lib.hid (rowF_own (l := zs.drop k ++ zs.take k) (own_l hO6 (by simp)) (by rw [List.length_append, List.length_drop, List.length_take]; have := HN.out.1; omega)); have HY6 := Lib.hid (HY.out.trans ((hk6.below (Nat.le_refl _) (fun _ _ h => h)).mono HY.out.size)); clear hO6 hG6 hk6))
              | (go_at_call 8; with_reducible refine (sum_t _ _ _ _ ((zs.drop k ++ zs.take k).map fi) HO6.out (by rw [List.length_map, List.length_append, List.length_drop, List.length_take]; have := HN.out.1; omega) (by omega)).mono ?_; rintro e w7 ⟨r7, rfl, hr7, -, hk7⟩; have o7 := sum_exact (zs.drop k ++ zs.take k) (by rw [siz_turn]; exact HT.out.1) r7 hr7; rw [tot_turn, ← HS.out] at o7; have HY7 := Lib.hid (HY6.out.trans ((hk7.below (Nat.le_refl _) (fun _ _ h => h)).mono HY6.out.size)); clear hr7 hk7)
              | (go_at_call 7; with_reducible refine (HL.out _ HY7.out).mono ?_; rintro e w9 ⟨rfl, hB9⟩))
            go_ret
            exact ⟨rfl, hB9⟩
end Fl
end Go.Proofs.YtdhelpbhbhihaaaGreatDoor
