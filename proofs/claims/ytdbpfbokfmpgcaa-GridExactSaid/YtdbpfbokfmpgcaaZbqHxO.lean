/-
HxO: GridExact, walked.
-/
import Derived.Test.YtdbpfbokfmpgcaaZbpHxN
namespace Go.Proofs.Ytdbpfbokfmpgcaa
open Go.RowKit Go.Shelf
set_option linter.unusedVariables false
set_option linter.unusedSimpArgs false
set_option linter.ambiguousOpen false
attribute [local go_sem] Oper.semAt_some
namespace Gx
open Mem Gr Gs
theorem exact_no (w : World) (s : Int) (hs : ¬ Size s) (v : Value) : Calls Try.prog 3 #[.int .i64 s, v] w fun e w' => e = .returned (.bool true) ∧ Keeps (fun _ => False) w w' := by
  have z1 := fun W => new_no W s hs
  have z2 := fun W => Calls.mono (new_r s W) (R' := fun e w' => e = .returned (.pointer none) ∧ W = w') (fun e w' h => by
    rcases h with ⟨rfl, _, rfl⟩ | ⟨_, h, _⟩
    · exact ⟨rfl, rfl⟩
    · exact absurd h hs)
  clear hs
  go_enter Try.func3, Try.ntmps3
  go_wp2_with (first
    | (go_at_call 4; (with_reducible refine (z1 _).mono ?_); rintro e w1 ⟨rfl, hk1⟩; have HK1 := Lib.hid hk1; clear hk1)
    | (go_at_call 5; (with_reducible refine (z2 _).mono ?_); rintro e w2 ⟨rfl, rfl⟩)
    | (go_at_call 6; (with_reducible refine (works_yes _).mono ?_); rintro e w3 ⟨rfl, hk3⟩; have HK3 := Lib.hid (HK1.out.trans hk3); clear hk3))
  go_ret
  exact ⟨rfl, HK3.out⟩
theorem rows10 {w w' : World} {g off : Nat} {rows : List Stp} (h : RowsS w (some ⟨g, off, none⟩) rows) (hk : Keeps (fun k => w.heap.size ≤ k) w w') {i : Nat} {t : Stp} (ht : rows[i]? = some t) : w'.cell? ⟨g, off + i * 10, none⟩ = some (.int .i64 t.kind) ∧ w'.cell? ⟨g, off + i * 10 + 1, none⟩ = some (.int .u32 (t.id : Int)) ∧ w'.cell? ⟨g, off + i * 10 + 2, none⟩ = some (.int .i32 t.b.x0) ∧ w'.cell? ⟨g, off + i * 10 + 3, none⟩ = some (.int .i32 t.b.y0) ∧ w'.cell? ⟨g, off + i * 10 + 4, none⟩ = some (.int .i32 t.b.x1) ∧ w'.cell? ⟨g, off + i * 10 + 5, none⟩ = some (.int .i32 t.b.y1) ∧ w'.cell? ⟨g, off + i * 10 + 6, none⟩ = some (.int .i32 t.px) ∧ w'.cell? ⟨g, off + i * 10 + 7, none⟩ = some (.int .i32 t.py) ∧ w'.cell? ⟨g, off + i * 10 + 8, none⟩ = some (.int .i32 t.qx) ∧ w'.cell? ⟨g, off + i * 10 + 9, none⟩ = some (.int .i32 t.qy) := by
  obtain ⟨g', off', h1, _, h3⟩ := h.keeps hk ht
  cases h1
  exact ⟨h3 0 _ rfl, h3 1 _ rfl, h3 2 _ rfl, h3 3 _ rfl, h3 4 _ rfl, h3 5 _ rfl, h3 6 _ rfl, h3 7 _ rfl, h3 8 _ rfl, h3 9 _ rfl⟩
theorem own_kf {W : World} {b1 m : Nat} {la : Option Addr} {lc : Nat} {l : List KIt} (h : W.ownsRow b1 44 2 (.slice la m lc) m (l.flatMap kf)) (hm : m = l.length) {j : Nat} {x : KIt} (hx : l[j]? = some x) :
    ∃ g, la = some ⟨g, 0, none⟩ ∧ W.cell? ⟨g, j * 2, none⟩ = some (.func (.func 35) #[] #[.pointer (some ⟨x.vb, 0, none⟩)]) ∧ W.cell? ⟨g, j * 2 + 1, none⟩ = some (.slice x.oa x.V.length x.oc) := by
  have hj : j < l.length := (List.getElem?_eq_some_iff.1 hx).1
  rcases h.2 with ⟨_, h0⟩ | ⟨g, cap, cur, hv, _, _, _⟩
  · omega
  · simp only [Value.slice.injEq] at hv
    have key : ∀ k u, k < 2 → (kf x)[k]? = some u → W.cell? ⟨g, j * 2 + k, none⟩ = some u := fun k u hk hu => by
      have hfc := flat_cell (f := kf) (fun x => rfl) l j k hk x hx
      have hcc := h.cells (g := g) (by rw [hv.1]; rfl) (j * 2 + k) u (by rw [hfc, hu])
      rw [Addr.add_mid, Nat.zero_add] at hcc
      exact hcc
    exact ⟨g, hv.1, key 0 _ (by decide) rfl, key 1 _ (by decide) rfl⟩
set_option maxHeartbeats 16000000 in
set_option maxRecDepth 100000 in
theorem exact_yes (w : World) (s : Int) (hs : Size s) (a : Option Addr) (cap : Nat) (rows : List Stp) (hrows : RowsS w a rows) (hlr : rows.length ≤ maxLen) : Calls Try.prog 3 #[.int .i64 s, .slice a rows.length cap] w fun e w' => e = .returned (.bool true) ∧ Keeps (fun k => w.heap.size ≤ k) w w' := by
  have z1 := fun W => gd_new W s hs
  have z2 := fun W => Calls.mono (new_r s W) (R' := fun e w' => e = .returned (.pointer (some ⟨W.heap.size, 0, none⟩)) ∧ w' = W.alloc (.cells #[.int .i64 s, .slice none 0 0] 55)) (fun e w' h => by
    rcases h with ⟨_, h, _⟩ | ⟨rfl, _, rfl⟩
    · exact absurd hs h
    · exact ⟨rfl, rfl⟩)
  obtain ⟨n, hn⟩ : ∃ n : Nat, n = rows.length := ⟨_, rfl⟩
  rw [← hn]
  have hnI : (n : Int) ≤ 9223372036854775807 := by unfold maxLen at hlr; omega
  have HN := Lib.hid hn
  have HR := Lib.hid hrows
  have HS := Lib.hid hs
  clear hn hrows hs hlr
  go_enter Try.func3, Try.ntmps3
  go_wp2_with (first
    | (go_at_call 4; (with_reducible refine (z1 _).mono ?_); rintro e w1 ⟨G, F0, rfl, g1, g2, g3⟩; have HG1 := Lib.hid (And.intro g1 (And.intro g2 g3)); clear g1 g2 g3)
    | (go_at_call 5; (with_reducible refine (z2 _).mono ?_); rintro e w2 ⟨rfl, hw2⟩; have HW2 := Lib.hid hw2; clear hw2)
    | (go_at_call 6; (with_reducible refine (works_yes _).mono ?_); rintro e w3 ⟨rfl, hk3⟩; have HK3 := Lib.hid hk3; clear hk3))
  obtain ⟨R, hR⟩ : ∃ R, R = w1.heap.size := ⟨_, rfl⟩
  rw [← hR]
  have hk12 : Keeps (fun _ => False) w1 w2 := by rw [HW2.out]; (repeat (first | exact Keeps.refl _ _ | refine Keeps.alloc ?_ _ | refine Keeps.drew ?_))
  have hk13 := hk12.trans HK3.out
  have hbR : RG w2 R s none 0 [] := by
    rw [HW2.out, hR]
    exact ⟨Blk.new w1 55 [.int .i64 s, .slice none 0 0], World.ownsRow_nil _ _ _ _⟩
  have hM0 : MI w G R s w.heap.size 0 [] F0 [] none 0 w3 := by
    have hz := hk13.size
    have hz1 := HG1.out.2.1.size
    refine ⟨⟨(HG1.out.1.kd hk13).congr (fun id b => by simp [inList]), ⟨none, 0, hbR.kd HK3.out⟩, by simp [Rise], Nat.le_refl _, by simp⟩, World.ownsRow_nil _ _ _ _, by simp, fun k hk => by have := HG1.out.2.2 k hk; omega, by omega, by omega, (HG1.out.2.1.trans hk13).mono (fun _ _ h => h.elim)⟩
  have HM0 := Lib.hid hM0
  clear hk12 hk13 hbR hM0 hR z1 z2
  go_loopw [8, 9] (fun v q wr => ∃ (i : Nat) (L : List (Nat × Bx)) (F : Nat → Prop) (l : List KIt) (la : Option Addr) (lc : Nat), q = .int .i64 (i : Int) ∧ i ≤ n ∧ i ≤ 300 ∧ v = .slice la l.length lc ∧ l.length ≤ i ∧ MI w G R s w.heap.size i L F l la lc wr) (fun _ q _ => n - (intOf q).toNat)
  case atStart => exact ⟨0, [], F0, [], none, 0, rfl, Nat.zero_le _, by omega, rfl, Nat.le_refl _, HM0.out⟩
  case round =>
    obtain ⟨i, L, F, l, la, lc, rfl, hi, hi3, rfl, hll, hM⟩ := hrel
    have HM := Lib.hid hM
    have hi0 : (0 : Int) ≤ i := by omega
    clear hM
    by_cases hlt : i < n
    · have hltI : (i : Int) < (n : Int) := by omega
      by_cases h3 : i < 300
      · have h3I : (i : Int) < 300 := by omega
        obtain ⟨t, ht⟩ : ∃ t, rows[i]? = some t := ⟨_, List.getElem?_eq_getElem (by have := HN.out; omega)⟩
        obtain ⟨g, off, rfl, hg, hc⟩ := HR.out.keeps HM.out.keep ht
        have c0 := hc 0 _ rfl
        have c1 := hc 1 _ rfl
        have c2 := hc 2 _ rfl
        have c3 := hc 3 _ rfl
        have c4 := hc 4 _ rfl
        have c5 := hc 5 _ rfl
        have c6 := hc 6 _ rfl
        have c7 := hc 7 _ rfl
        have c8 := hc 8 _ rfl
        have c9 := hc 9 _ rfl
        simp only [Nat.add_zero] at c0
        have HT := Lib.hid ht
        clear hc ht
        by_cases h6 : t.kind = 6
        · have e6 : (t.kind == 6) = true := by rw [h6]; rfl
          clear h6
          have hPr := HM.out.pr
          obtain ⟨ra, rcp, hrg⟩ := hPr.rg
          have hVl := Nat.le_trans (wantAt_le s t.px t.py L) hPr.len
          have zg := fun W (hk : Keeps (fun _ => False) wr W) => gd_at2 (hPr.gd.kd hk) hPr.rise HS.out (by omega) t.px t.py
          have zr := fun W (hk : Keeps (fun _ => False) wr W) => rat_t (hrg.kd hk) HS.out (by have := hPr.len; omega) hPr.right t.px t.py
          obtain ⟨V, hV⟩ : ∃ V, V = wantAt s t.px t.py L := ⟨_, rfl⟩
          rw [← hV] at zg zr hVl
          have HG := Lib.hid (And.intro zg zr)
          have HL := Lib.hid (show V.length ≤ 1000000 ∧ l.length ≤ 1000000000 from ⟨by omega, by omega⟩)
          clear hPr hrg hVl zg zr hV
          clear c1 c2 c3 c4 c5 c8 c9
          go_wp2
          rename_i Kx hKx
          clear c0 c6 c7
          go_region_held3 (fun W => W.cell? ⟨g, off + i * 10, none⟩ = some (.int .i64 t.kind) ∧ W.cell? ⟨g, off + i * 10 + 1, none⟩ = some (.int .u32 (t.id : Int)) ∧ W.cell? ⟨g, off + i * 10 + 2, none⟩ = some (.int .i32 t.b.x0) ∧ W.cell? ⟨g, off + i * 10 + 3, none⟩ = some (.int .i32 t.b.y0) ∧ W.cell? ⟨g, off + i * 10 + 4, none⟩ = some (.int .i32 t.b.x1) ∧ W.cell? ⟨g, off + i * 10 + 5, none⟩ = some (.int .i32 t.b.y1) ∧ W.cell? ⟨g, off + i * 10 + 6, none⟩ = some (.int .i32 t.px) ∧ W.cell? ⟨g, off + i * 10 + 7, none⟩ = some (.int .i32 t.py) ∧ W.cell? ⟨g, off + i * 10 + 8, none⟩ = some (.int .i32 t.qx) ∧ W.cell? ⟨g, off + i * 10 + 9, none⟩ = some (.int .i32 t.qy)) (first | with_reducible assumption | exact rows10 HR.out HM5.out.keep HT.out | exact rows10 HR.out (HM.out.keep.then (show Keeps (fun _ => False) wr _ from by first | exact HT2.out | (refine HT2.out.trans ?_; (repeat (first | exact Keeps.refl _ _ | refine Keeps.alloc ?_ _ | refine Keeps.drew ?_)); done) | exact HT1.out | (refine HT1.out.trans ?_; (repeat (first | exact Keeps.refl _ _ | refine Keeps.alloc ?_ _ | refine Keeps.drew ?_)); done) | (repeat (first | exact Keeps.refl _ _ | refine Keeps.alloc ?_ _ | refine Keeps.drew ?_))) (fun _ _ h => h.elim)) HT.out) (first
            | (go_at_call 7; (with_reducible refine (HG.out.1 _ (by (repeat (first | exact Keeps.refl _ _ | refine Keeps.alloc ?_ _ | refine Keeps.drew ?_)))).mono ?_); rintro e wA hTold; obtain ⟨VB, rfl, g1, g2⟩ := hTold; have HT1 := Lib.hid ((show Keeps (fun _ => False) wr _ from by (repeat (first | exact Keeps.refl _ _ | refine Keeps.alloc ?_ _ | refine Keeps.drew ?_))).trans g1); have HV1 := Lib.hid (show ∃ b, wr.heap.size ≤ b ∧ Vals b wA VB V from ⟨_, (show Keeps (fun _ => False) wr _ from by (repeat (first | exact Keeps.refl _ _ | refine Keeps.alloc ?_ _ | refine Keeps.drew ?_))).size, g2⟩); clear g1 g2)
            | (go_at_call 8; (with_reducible refine (HG.out.2 _ (by first | exact HT1.out | (refine HT1.out.trans ?_; (repeat (first | exact Keeps.refl _ _ | refine Keeps.alloc ?_ _ | refine Keeps.drew ?_))))).mono ?_); rintro e wB hWant; obtain ⟨oa, oc, rfl, g1, g2⟩ := hWant; have hk12 := (show Keeps (fun _ => False) wA _ from by (repeat (first | exact Keeps.refl _ _ | refine Keeps.alloc ?_ _ | refine Keeps.drew ?_))).trans g1; have HT2 := Lib.hid (HT1.out.trans hk12); obtain ⟨va, vc, hx⟩ := HM.out.taken HT1.out HV1.out hk12 ((HT1.out.trans (show Keeps (fun _ => False) wA _ from by (repeat (first | exact Keeps.refl _ _ | refine Keeps.alloc ?_ _ | refine Keeps.drew ?_)))).size) g2 HL.out.1; have HX := Lib.hid hx; clear g1 g2 hk12 hx)
            | (refine step_app_f elK rfl (.tmp 50) (.tmp 66) rfl w.heap.size l _ la lc rfl (owns_keeps HM.out.own (HT2.out.alloc _) (fun _ _ h => h)) ⟨VB, va, vc, oa, oc, V⟩ wB.heap.size rfl (by exact Mem.news_new wB _ [_, _]) HL.out.2 (Nat.le_trans HM.out.keep.size ((HT2.out.alloc _).size)) ?_; intro g' cap' w5 hown hgrow; have HM5 := Lib.hid ((HM.out.kd (HT2.out.alloc _)).app (x := ⟨VB, va, vc, oa, oc, V⟩) (own_n hown (by simp)) (HX.out.step (((Keeps.refl (fun _ => False) wB).alloc _).mono (fun _ _ h => h.elim)) (fun _ h => .inl h)) ((Keeps.of_grown hgrow).mono (fun _ _ h => h.symm))); clear hown hgrow))
          refine hKx _ _ ?_
          clear hKx
          obtain ⟨c0, c1, c2, c3, c4, c5, c6, c7, c8, c9⟩ := rows10 HR.out HM5.out.keep HT.out
          go_wp2_with (go_at_call 9; (with_reducible refine (does_yes w5 G R s L i F HM5.out.pr HS.out (by omega) t.id t.b t.px t.py t.qx t.qy t.kind).mono ?_); rintro e w6 ⟨rfl, hst⟩; have HST := Lib.hid hst; clear hst)
          go_roundw
          case rel =>
            obtain ⟨L', F', hM'⟩ := HM5.out.step HST.out
            exact ⟨i + 1, L', F', l ++ [⟨VB, va, vc, oa, oc, V⟩], some ⟨g', 0, none⟩, cap', by rw [Int.natCast_add]; rfl, by omega, by omega, by simp, by simp; omega, hM'⟩
          case measure => simp only [intOf]; omega
        · have e6 : (t.kind == 6) = false := by simpa using h6
          clear h6
          go_wp2_with (go_at_call 9; (with_reducible refine (does_yes wr G R s L i F HM.out.pr HS.out (by omega) t.id t.b t.px t.py t.qx t.qy t.kind).mono ?_); rintro e w6 ⟨rfl, hst⟩; have HST := Lib.hid hst; clear hst)
          go_roundw
          case rel =>
            obtain ⟨L', F', hM'⟩ := HM.out.step HST.out
            exact ⟨i + 1, L', F', l, la, lc, by rw [Int.natCast_add]; rfl, by omega, by omega, rfl, by omega, hM'⟩
          case measure => simp only [intOf]; omega
      · have h3N : ¬ (i : Int) < 300 := by omega
        have HE := Lib.hid hll
        clear hll
        go_wp2
        obtain ⟨m, hm⟩ : ∃ m : Nat, m = l.length := ⟨_, rfl⟩
        have hO := HM.out.own
        rw [← hm] at hO ⊢
        have hmI : (m : Int) ≤ 1000000 := by have := HE.out; omega
        have HO := Lib.hid (And.intro hm hO)
        obtain ⟨w8, hw8⟩ : ∃ w8, w8 = wr := ⟨_, rfl⟩
        rw [← hw8]
        rw [← hw8] at HM HO
        clear hm hO hw8
        go_loopw [10] (fun q wr => ∃ j : Nat, q = .int .i64 (j : Int) ∧ j ≤ m ∧ Keeps (fun _ => False) w8 wr) (fun q _ => m - (intOf q).toNat)
        case atStart => exact ⟨0, rfl, Nat.zero_le _, Keeps.refl _ _⟩
        case round =>
          obtain ⟨j, rfl, hj, hk⟩ := hrel
          have HK := Lib.hid hk
          have hj0 : (0 : Int) ≤ j := by omega
          by_cases hjl : j < m
          · have hjI : (j : Int) < (m : Int) := by omega
            obtain ⟨x, hx⟩ : ∃ x, l[j]? = some x := ⟨_, List.getElem?_eq_getElem (by have := HO.out.1; omega)⟩
            obtain ⟨gl, rfl, d0, d1⟩ := own_kf (owns_keeps HO.out.2 hk (fun _ _ h => h)) HO.out.1 hx
            have hok := (HM.out.ok x (List.mem_of_getElem? hx)).step (hk.mono (fun _ _ h => h.elim)) (fun _ h => .inl h)
            have HT2 := Lib.hid (tells_yes x.vb x.oa _ x.oc _ _ x.V rfl hok.len _ hok.orow hok.vals)
            clear hx hok hk
            go_wp2_with (go_at_call 10; (with_reducible refine HT2.out.mono ?_); rintro e wC ⟨rfl, hkC⟩; have HKC := Lib.hid hkC; clear hkC)
            go_roundw
            case rel => exact ⟨j + 1, by rw [Int.natCast_add]; rfl, by omega, HK.out.trans HKC.out⟩
            case measure => simp only [intOf]; omega
          · obtain rfl : j = m := by omega
            have HB := Lib.hid (books_yes _ G R s L i F (HM.out.pr.kd hk) HS.out (by omega))
            clear hk
            go_wp2_with (go_at_call 11; (with_reducible refine HB.out.mono ?_); rintro e wC ⟨rfl, hkC⟩; have HKC := Lib.hid hkC; clear hkC)
            go_ret
            exact ⟨rfl, HM.out.keep.then (HK.out.trans HKC.out) (fun _ _ h => h.elim)⟩
    · have hltN : ¬ (i : Int) < (n : Int) := by omega
      have HE := Lib.hid hll
      clear hll
      go_wp2
      obtain ⟨m, hm⟩ : ∃ m : Nat, m = l.length := ⟨_, rfl⟩
      have hO := HM.out.own
      rw [← hm] at hO ⊢
      have hmI : (m : Int) ≤ 1000000 := by have := HE.out; omega
      have HO := Lib.hid (And.intro hm hO)
      obtain ⟨w8, hw8⟩ : ∃ w8, w8 = wr := ⟨_, rfl⟩
      rw [← hw8]
      rw [← hw8] at HM HO
      clear hm hO hw8
      go_loopw [10] (fun q wr => ∃ j : Nat, q = .int .i64 (j : Int) ∧ j ≤ m ∧ Keeps (fun _ => False) w8 wr) (fun q _ => m - (intOf q).toNat)
      case atStart => exact ⟨0, rfl, Nat.zero_le _, Keeps.refl _ _⟩
      case round =>
        obtain ⟨j, rfl, hj, hk⟩ := hrel
        have HK := Lib.hid hk
        have hj0 : (0 : Int) ≤ j := by omega
        by_cases hjl : j < m
        · have hjI : (j : Int) < (m : Int) := by omega
          obtain ⟨x, hx⟩ : ∃ x, l[j]? = some x := ⟨_, List.getElem?_eq_getElem (by have := HO.out.1; omega)⟩
          obtain ⟨gl, rfl, d0, d1⟩ := own_kf (owns_keeps HO.out.2 hk (fun _ _ h => h)) HO.out.1 hx
          have hok := (HM.out.ok x (List.mem_of_getElem? hx)).step (hk.mono (fun _ _ h => h.elim)) (fun _ h => .inl h)
          have HT2 := Lib.hid (tells_yes x.vb x.oa _ x.oc _ _ x.V rfl hok.len _ hok.orow hok.vals)
          clear hx hok hk
          go_wp2_with (go_at_call 10; (with_reducible refine HT2.out.mono ?_); rintro e wC ⟨rfl, hkC⟩; have HKC := Lib.hid hkC; clear hkC)
          go_roundw
          case rel => exact ⟨j + 1, by rw [Int.natCast_add]; rfl, by omega, HK.out.trans HKC.out⟩
          case measure => simp only [intOf]; omega
        · obtain rfl : j = m := by omega
          have HB := Lib.hid (books_yes _ G R s L i F (HM.out.pr.kd hk) HS.out (by omega))
          clear hk
          go_wp2_with (go_at_call 11; (with_reducible refine HB.out.mono ?_); rintro e wC ⟨rfl, hkC⟩; have HKC := Lib.hid hkC; clear hkC)
          go_ret
          exact ⟨rfl, HM.out.keep.then (HK.out.trans HKC.out) (fun _ _ h => h.elim)⟩
end Gx
end Go.Proofs.Ytdbpfbokfmpgcaa
