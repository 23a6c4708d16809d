/-
  FlV: RealSums.
-/
import Derived.Test.YtdhelpbhbhihaaaGreatDoorFlU
namespace Go.Proofs.YtdhelpbhbhihaaaGreatDoor
open Go.RowKit
set_option linter.unusedVariables false
set_option linter.unusedSimpArgs false
attribute [local go_sem] Oper.semAt_some
namespace Fl
open Mem Rl
attribute [local go_sem] run_add run_sub run_quo
theorem run_store_float {P : Program} {w : World} {a : Addr} {m : Mode} (k : FloatKind) (n : Nat) : (store a (.float k n) m).run P w = stored P w a (.float k n) m := run_store P w a _ m rfl
attribute [local go_sem] run_store_float
theorem join_one {P : Program} {c : Code} {K : Act → World → Prop} {Q : Exit → Act → World → Prop} {a A : Act} {w W : World} (h : c.wp P (Exit.then (fun a' w' => a' = A ∧ w' = W) (fun _ _ _ => False)) a w) (k : K A W) : c.wp P (Exit.then K Q) a w :=
  Code.wp_mono (fun e a' w' he => by
    cases e with
    | normal => obtain ⟨rfl, rfl⟩ := he; exact k
    | _ => exact he.elim) h
/-- a row of one's own, as a block -/
theorem own_blk {w : World} {base n g cap : Nat} {e : TypeId} {l : List Nat} (h : w.ownsRow base e 1 (.slice (some ⟨g, 0, none⟩) n cap) n (l.flatMap ff)) : base ≤ g ∧ ∃ cs, Blk w g e cs ∧ ∀ (i x : Nat), l[i]? = some x → cs[i]? = some (.float .f64 x) := by
  rcases h.2 with ⟨hv, h0⟩ | ⟨g', c, cur, hv, hb, hg, hle, _, _, ht⟩
  · cases hv
  · simp only [Value.slice.injEq, Option.some.injEq, Addr.mk.injEq] at hv
    obtain ⟨⟨rfl, -, -⟩, -, -⟩ := hv
    refine ⟨hb, cur.toList, ?_, fun i x hx => ?_⟩
    · exact hg
    · have h1 : (l.flatMap ff)[i]? = some (.float .f64 x) := by rw [ff_get, hx]; rfl
      rw [← ht, List.getElem?_take] at h1
      split at h1
      · exact h1
      · cases h1
theorem rowF_blk {w : World} {g : Nat} {e : TypeId} {cs : List Value} {xs : List Nat} (hb : Blk w g e cs) (h : ∀ (i x : Nat), xs[i]? = some x → cs[i]? = some (.float .f64 x)) (hx : ∀ (i x : Nat), xs[i]? = some x → x < 18446744073709551616) : RowF w (some ⟨g, 0, none⟩) xs :=
  ⟨fun i x hi => ⟨g, rfl, by rw [hb.cell i]; exact h i x hi⟩, hx⟩
/-- what stands in a row behind i rounds: the first i written over -/
def mixed (xs : List Nat) (i : Nat) : List Nat := (List.range xs.length).map fun j => if j < i then floatOfInt .f64 (j : Int) else xs.getD j 0
theorem mixed_get (xs : List Nat) (i j : Nat) (h : j < xs.length) : (mixed xs i)[j]? = some (if j < i then floatOfInt .f64 (j : Int) else xs.getD j 0) := by
  unfold mixed
  rw [List.getElem?_map, List.getElem?_range h]
  rfl
theorem mixed_zero (xs : List Nat) : mixed xs 0 = xs := by
  apply List.ext_getElem?
  intro j
  by_cases h : j < xs.length
  · rw [mixed_get xs 0 j h, if_neg (by omega), List.getD, List.getElem?_eq_getElem h]
    rfl
  · rw [List.getElem?_eq_none (by simp [mixed]; omega), List.getElem?_eq_none (by omega)]
theorem mixed_len (xs : List Nat) (i : Nat) : (mixed xs i).length = xs.length := by simp [mixed]
theorem foi_lt (n : Int) : floatOfInt .f64 n < 18446744073709551616 := by
  have h := floatOfInt_wf .f64 n
  simp only [Lit.wf] at h
  have h64 : (2 : Nat) ^ 64 = 18446744073709551616 := by decide
  simpa using h
theorem mixed_lt {xs : List Nat} (h : ∀ (i x : Nat), xs[i]? = some x → x < 18446744073709551616) (k : Nat) : ∀ (i x : Nat), (mixed xs k)[i]? = some x → x < 18446744073709551616 := by
  intro i x hx
  have hi : i < xs.length := by
    have := (List.getElem?_eq_some_iff.1 hx).1
    rwa [mixed_len] at this
  rw [mixed_get xs k i hi] at hx
  obtain rfl := Option.some.inj hx
  split
  · exact foi_lt _
  · rw [List.getD, List.getElem?_eq_getElem hi]
    exact h i _ (List.getElem?_eq_getElem hi)
/-- one place more is written over -/
theorem mixed_step {xs : List Nat} {cs : List Value} {i : Nat} (h : ∀ (j x : Nat), (mixed xs i)[j]? = some x → cs[j]? = some (.float .f64 x)) (hi : i < xs.length) : ∀ (j x : Nat), (mixed xs (i + 1))[j]? = some x → (cs.set i (.float .f64 (floatOfInt .f64 (i : Int))))[j]? = some (.float .f64 x) := by
  intro j x hx
  have hj : j < xs.length := by
    have := (List.getElem?_eq_some_iff.1 hx).1
    rwa [mixed_len] at this
  rw [mixed_get xs (i + 1) j hj] at hx
  have h1 := h i _ (mixed_get xs i i hi)
  have hl : i < cs.length := (List.getElem?_eq_some_iff.1 h1).1
  by_cases e : i = j
  · subst e
    rw [if_pos (by omega)] at hx
    obtain rfl := Option.some.inj hx
    rw [List.getElem?_set_self hl]
  · rw [List.getElem?_set_ne e]
    refine h j x ?_
    rw [mixed_get xs i j hj, ← hx]
    by_cases h2 : j < i
    · rw [if_pos h2, if_pos (by omega)]
    · rw [if_neg h2, if_neg (by omega)]
theorem o77 : FloatKind.f64.format.order 4635118810238550016 4635118810238550016 = some .eq := by decide
set_option maxHeartbeats 16000000 in
set_option maxRecDepth 20000 in
theorem sums_at (w : World) (ba : Option Addr) (n bc : Nat) (xs : List Nat) (dx dy : Int) (h : RowU w ba xs) (hn : n = xs.length) (hl : (n + 1) * 8 ≤ 140737488355328) (hx : ∀ (i x : Nat), xs[i]? = some x → x < 18446744073709551616) (hdx : dx.natAbs < 18446744073709551616) (hdy : dy.natAbs < 18446744073709551616)
    (hL : ∀ W, Below w.heap.size w W → Calls Tryz.prog 7 #[] W fun e w' => e = .returned (.bool true) ∧ Below w.heap.size w w') :
    Calls Tryz.prog 5 #[.slice ba n bc, .int .i64 dx, .int .i64 dy] w fun e w' => e = .returned (.bool true) ∧ Below w.heap.size w w' := by
  have hl2 : (n : Int) ≤ 17592186044416 := by omega
  have hNum := fun W (k : Keeps (fun _ => False) w W) => numbers_t W ba n bc xs (h.keeps k) hn hl
  obtain ⟨p, q, s, r, l1, l2, l3, l4, l5⟩ := way_len dx dy hdx hdy
  have hLn := len_t dx dy l1 l2 l3 l4
  have hRn := rlen_t dx dy l1 l2 l3 l4
  have HL := Lib.hid hL
  have HN := Lib.hid (And.intro hn hx)
  have HNum := Lib.hid hNum
  have HLen := Lib.hid (And.intro hLn (And.intro hRn (self_num l5)))
  obtain ⟨c77, hc77, z77⟩ : ∃ c : Nat, c = 4635118810238550016 ∧ FloatKind.f64.format.order c 4635118810238550016 = some .eq := ⟨_, rfl, o77⟩
  rw [← hc77] at HNum
  clear hn hx hL hNum hLn hRn l1 l2 l3 l4 l5 h hdx hdy hc77
  go_enter Tryz.func5, Tryz.ntmps5
  go_wp2_with (first
    | (go_at_call 22; with_reducible refine (HNum.out w (Keeps.refl _ _)).mono ?_; rintro e w1 ⟨g1, cap1, rfl, hO1, hk1⟩; have HO1 := Lib.hid hO1; have HK1 := Lib.hid hk1; clear hO1 hk1)
    | (go_at_call 22; with_reducible refine (HNum.out w1 HK1.out).mono ?_; rintro e w2 ⟨g2, cap2, rfl, hO2, hk2⟩; have HO2 := Lib.hid hO2; have HK2 := Lib.hid hk2; clear hO2 hk2))
  obtain ⟨hb1, cs1, B1, G1⟩ := own_blk (owns_keeps HO1.out HK2.out (fun _ _ h => h))
  obtain ⟨hb2, cs2, B2, G2⟩ := own_blk HO2.out
  have hg1 := (HO1.out.lt g1 rfl).2
  have hcap : n + 1 ≤ cap1 := own_cap HO1.out
  have hsz := HK1.out.size
  have hx1 : ∀ (i x : Nat), xs[i]? = some x → (xs ++ [c77])[i]? = some x := fun i x hx => by
    rw [List.getElem?_append_left (List.getElem?_eq_some_iff.1 hx).1]; exact hx
  have hn77 : (xs ++ [c77])[n]? = some c77 := by rw [HN.out.1]; simp
  have HR := Lib.hid (show ∀ W, Keeps (fun _ => False) w2 W → RowF W (some ⟨g1, 0, none⟩) xs ∧ RowF W (some ⟨g2, 0, none⟩) xs ∧ W.cell? ⟨g1, n, none⟩ = some (.float .f64 c77) from fun W hk =>
    ⟨rowF_blk (B1.keeps hk (fun h => h)) (fun i x hx => G1 i x (hx1 i x hx)) HN.out.2, rowF_blk (B2.keeps hk (fun h => h)) (fun i x hx => G2 i x (hx1 i x hx)) HN.out.2, by rw [(B1.keeps hk (fun h => h)).cell n]; exact G1 n c77 hn77⟩)
  have HB := Lib.hid (And.intro B1 (And.intro B2 (And.intro (fun i x hx => G1 i x (hx1 i x hx)) (fun i x hx => G2 i x (hx1 i x hx)))))
  have HG := Lib.hid (show w.heap.size ≤ g1 ∧ w.heap.size ≤ g2 ∧ g1 ≠ g2 from ⟨hb1, by omega, by omega⟩)
  have hll : n ≤ 4611686018427387904 := by omega
  have HW2 := Lib.hid (show Keeps (fun _ => False) w w2 from HK1.out.then HK2.out (fun _ _ h => h))
  clear hb1 hb2 B1 B2 G1 G2 hg1 hsz hx1 hn77
  go_wp2_with (first
    | (go_at_call 8; with_reducible refine (sum_t _ _ _ _ xs (HR.out _ (by exact Keeps.refl _ _)).1 HN.out.1 hll).mono ?_; rintro e w3 ⟨r1, rfl, hr1, -, hk3⟩; have H3 := Lib.hid (And.intro hr1 hk3); clear hr1 hk3)
    | (go_at_call 23; with_reducible refine (mean_t _ _ _ _ xs (HR.out _ (by exact H3.out.2)).1 HN.out.1 hll).mono ?_; rintro e w4 ⟨r2, rfl, hr2, hk4⟩; have H4 := Lib.hid (And.intro hr2 (H3.out.2.trans hk4)); clear hr2 hk4)
    | (go_at_call 24; with_reducible refine (rsum_t _ _ _ _ xs (HR.out _ (by exact H4.out.2)).2.1 HN.out.1 hll).mono ?_; rintro e w5 ⟨r3, rfl, hr3, -, hk5⟩; have H5 := Lib.hid (And.intro hr3 (H4.out.2.trans hk5)); clear hr3 hk5)
    | (go_at_call 25; with_reducible refine (rmean_t _ _ _ _ xs (HR.out _ (by exact H5.out.2)).2.1 HN.out.1 hll).mono ?_; rintro e w6 ⟨r4, rfl, hr4, hk6⟩; have H6 := Lib.hid (And.intro hr4 (H5.out.2.trans hk6)); clear hr4 hk6; have c77n := (HR.out _ H6.out.2).2.2)
    | (go_at_call 18; with_reducible refine (alike_t _ _ _ (by first | exact H3.out.1.trans H5.out.1.symm | exact H4.out.1.trans H6.out.1.symm)).mono ?_; rintro e w7 ⟨rfl, rfl⟩))
  clear c77n z77
  have HI := Lib.hid (show Below w.heap.size w w6 from (HW2.out.then H6.out.2 (fun _ _ h => h)).below (Nat.le_refl _) (fun _ _ h => h))
  go_loopw [11] (fun q wr => ∃ (i : Nat) (c1 c2 : List Value), q = .int .i64 (i : Int) ∧ i ≤ n ∧ Blk wr g1 25 c1 ∧ Blk wr g2 25 c2 ∧ (∀ (j x : Nat), (mixed xs i)[j]? = some x → c1[j]? = some (.float .f64 x)) ∧ (∀ (j x : Nat), (mixed xs i)[j]? = some x → c2[j]? = some (.float .f64 x)) ∧ Below w.heap.size w wr) (fun q _ => n - (intOf q).toNat)
  case atStart =>
    refine ⟨0, cs1, cs2, rfl, by omega, HB.out.1.keeps H6.out.2 (fun h => h), HB.out.2.1.keeps H6.out.2 (fun h => h), ?_, ?_, HI.out⟩
    · rw [mixed_zero]; exact HB.out.2.2.1
    · rw [mixed_zero]; exact HB.out.2.2.2
  case round =>
    obtain ⟨i, c1, c2, rfl, hi, hb1, hb2, hc1, hc2, hk⟩ := hrel
    by_cases hlt : i < n
    · have hltI : (i : Int) < (n : Int) := by omega
      have hlx : i < xs.length := by have := HN.out.1; omega
      obtain ⟨x, hx⟩ : ∃ x, (mixed xs i)[i]? = some x := ⟨_, mixed_get xs i i hlx⟩
      have k1 := (hb1.cell i).trans (hc1 i x hx)
      have k2 := (hb2.cell i).trans (hc2 i x hx)
      have hSV : wr.cell? ⟨g1, i, none⟩ = some (.float .f64 x) ∧ wr.cell? ⟨g2, i, none⟩ = some (.float .f64 x) := ⟨k1, k2⟩
      have HS := Lib.hid hSV
      have hd := ext_bits
      have f1 := hb1.frozen i
      have b1 := hb1.set_ i (.float .f64 (floatOfInt .f64 (i : Int)))
      have b2 := hb2.far (p := ⟨g1, i, none⟩) (fun e => HG.out.2.2 e.symm) (.float .f64 (floatOfInt .f64 (i : Int)))
      have k2' := b2.cell i
      rw [hc2 i x hx] at k2'
      have f2 := b2.frozen i
      have b3 := b2.set_ i (.float .f64 (floatOfInt .f64 (i : Int)))
      have b4 := b1.far (p := ⟨g2, i, none⟩) HG.out.2.2 (.float .f64 (floatOfInt .f64 (i : Int)))
      have HE := Lib.hid (And.intro b4 (And.intro b3 (And.intro (mixed_step hc1 hlx) (mixed_step hc2 hlx))))
      have HK := Lib.hid ((hk.setCell (p := ⟨g1, i, none⟩) HG.out.1 (.float .f64 (floatOfInt .f64 (i : Int)))).setCell (p := ⟨g2, i, none⟩) HG.out.2.1 (.float .f64 (floatOfInt .f64 (i : Int))))
      clear hx hb1 hb2 hc1 hc2 hk b1 b2 b3 b4 hSV hlx
      go_wp2
      apply join_one
      · refine wp_region_held_drew (S := fun W => W.cell? ⟨g1, i, none⟩ = some (.float .f64 x) ∧ W.cell? ⟨g2, i, none⟩ = some (.float .f64 x)) (by kernel_rfl) (by exact HS.out) (fun hS0 => ?_)
        (refine wpAnyH_take (i := 0) (v := ?_) rfl (by kernel_rfl) (by kernel_rfl) (by kernel_rfl) (fun _ _ _ h => False.elim h) (Or.inl ⟨by kernel_rfl, ?_⟩) (by with_reducible exact hS0) ?_; rotate_left; (focus (rintro w hSw; (try dsimp only at hSw); go_simp; (try with_reducible rfl))); simp only [Act.put, List.getElem_toArray, List.getElem_cons_succ, List.getElem_cons_zero, List.setIfInBounds_toArray, List.set_cons_zero, List.set_cons_succ])
        (refine wpAnyH_take (i := 1) (v := ?_) rfl (by kernel_rfl) (by kernel_rfl) (by kernel_rfl) (fun _ _ _ h => False.elim h) (Or.inl ⟨by kernel_rfl, ?_⟩) (by with_reducible exact hS0) ?_; rotate_left; (focus (rintro w hSw; (try dsimp only at hSw); go_simp; (try with_reducible rfl))); simp only [Act.put, List.getElem_toArray, List.getElem_cons_succ, List.getElem_cons_zero, List.setIfInBounds_toArray, List.set_cons_zero, List.set_cons_succ])
        (refine wpAnyH_take (i := 2) (v := ?_) rfl (by kernel_rfl) (by kernel_rfl) (by kernel_rfl) (fun _ _ _ h => False.elim h) (Or.inl ⟨by kernel_rfl, ?_⟩) (by with_reducible exact hS0) ?_; rotate_left; (focus (rintro w hSw; (try dsimp only at hSw); go_simp; (try with_reducible rfl))); simp only [Act.put, List.getElem_toArray, List.getElem_cons_succ, List.getElem_cons_zero, List.setIfInBounds_toArray, List.set_cons_zero, List.set_cons_succ])
        (refine wpAnyH_take (i := 3) (v := ?_) rfl (by kernel_rfl) (by kernel_rfl) (by kernel_rfl) (fun _ _ _ h => False.elim h) (Or.inl ⟨by kernel_rfl, ?_⟩) (by with_reducible exact hS0) ?_; rotate_left; (focus (rintro w hSw; (try dsimp only at hSw); go_simp; (try with_reducible rfl))); simp only [Act.put, List.getElem_toArray, List.getElem_cons_succ, List.getElem_cons_zero, List.setIfInBounds_toArray, List.set_cons_zero, List.set_cons_succ])
        (refine wpAnyH_take (i := 4) (v := ?_) rfl (by kernel_rfl) (by kernel_rfl) (by kernel_rfl) (fun _ _ _ h => False.elim h) (Or.inl ⟨by kernel_rfl, ?_⟩) (by with_reducible exact hS0) ?_; rotate_left; (focus (rintro w hSw; (try dsimp only at hSw); go_simp; (try with_reducible rfl))); simp only [Act.put, List.getElem_toArray, List.getElem_cons_succ, List.getElem_cons_zero, List.setIfInBounds_toArray, List.set_cons_zero, List.set_cons_succ])
        (refine wpAnyH_take (i := 5) (v := ?_) rfl (by kernel_rfl) (by kernel_rfl) (by kernel_rfl) (fun _ _ _ h => False.elim h) (Or.inl ⟨by kernel_rfl, ?_⟩) (by with_reducible exact hS0) ?_; rotate_left; (focus (rintro w hSw; (try dsimp only at hSw); go_simp; (try with_reducible rfl))); simp only [Act.put, List.getElem_toArray, List.getElem_cons_succ, List.getElem_cons_zero, List.setIfInBounds_toArray, List.set_cons_zero, List.set_cons_succ])
        (refine wpAnyH_take (i := 6) (v := ?_) rfl (by kernel_rfl) (by kernel_rfl) (by kernel_rfl) (fun _ _ _ h => False.elim h) (Or.inl ⟨by kernel_rfl, ?_⟩) (by with_reducible exact hS0) ?_; rotate_left; (focus (rintro w hSw; (try dsimp only at hSw); go_simp; (try with_reducible rfl))); simp only [Act.put, List.getElem_toArray, List.getElem_cons_succ, List.getElem_cons_zero, List.setIfInBounds_toArray, List.set_cons_zero, List.set_cons_succ])
        (refine wpAnyH_take (i := 7) (v := ?_) rfl (by kernel_rfl) (by kernel_rfl) (by kernel_rfl) (fun _ _ _ h => False.elim h) (Or.inl ⟨by kernel_rfl, ?_⟩) (by with_reducible exact hS0) ?_; rotate_left; (focus (rintro w hSw; (try dsimp only at hSw); go_simp; (try with_reducible rfl))); simp only [Act.put, List.getElem_toArray, List.getElem_cons_succ, List.getElem_cons_zero, List.setIfInBounds_toArray, List.set_cons_zero, List.set_cons_succ])
        (refine wpAnyH_take (i := 8) (v := ?_) rfl (by kernel_rfl) (by kernel_rfl) (by kernel_rfl) (fun _ _ _ h => False.elim h) (Or.inl ⟨by kernel_rfl, ?_⟩) (by with_reducible exact hS0) ?_; rotate_left; (focus (rintro w hSw; (try dsimp only at hSw); go_simp; (try with_reducible rfl))); simp only [Act.put, List.getElem_toArray, List.getElem_cons_succ, List.getElem_cons_zero, List.setIfInBounds_toArray, List.set_cons_zero, List.set_cons_succ])
        (refine wpAnyH_take (i := 9) (v := ?_) rfl (by kernel_rfl) (by kernel_rfl) (by kernel_rfl) (fun _ _ _ h => False.elim h) (Or.inl ⟨by kernel_rfl, ?_⟩) (by with_reducible exact hS0) ?_; rotate_left; (focus (rintro w hSw; (try dsimp only at hSw); go_simp; (try with_reducible rfl))); simp only [Act.put, List.getElem_toArray, List.getElem_cons_succ, List.getElem_cons_zero, List.setIfInBounds_toArray, List.set_cons_zero, List.set_cons_succ])
        (refine wpAnyH_take (i := 10) (v := .bool false) rfl (by kernel_rfl) (by kernel_rfl) (by kernel_rfl) (fun _ _ _ h => False.elim h) (Or.inl ⟨by kernel_rfl, fun w hSw => ?_⟩) (by with_reducible exact hS0) ?_; (focus (go_simp)); simp only [Act.put, List.getElem_toArray, List.getElem_cons_succ, List.getElem_cons_zero, List.setIfInBounds_toArray, List.set_cons_zero, List.set_cons_succ])
        (refine wpAnyH_take (i := 11) (v := ?_) rfl (by kernel_rfl) (by kernel_rfl) (by kernel_rfl) (fun _ _ _ h => False.elim h) (Or.inl ⟨by kernel_rfl, ?_⟩) (by with_reducible exact hS0) ?_; rotate_left; (focus (rintro w hSw; (try dsimp only at hSw); go_simp; (try with_reducible rfl))); simp only [Act.put, List.getElem_toArray, List.getElem_cons_succ, List.getElem_cons_zero, List.setIfInBounds_toArray, List.set_cons_zero, List.set_cons_succ])
        (refine wpAnyH_take (i := 12) (v := undef) rfl (by kernel_rfl) (by kernel_rfl) (by kernel_rfl) (fun _ _ _ h => False.elim h) (Or.inr ⟨by kernel_rfl, rfl⟩) (by with_reducible exact hS0) ?_; simp only [Act.put, List.getElem_toArray, List.getElem_cons_succ, List.getElem_cons_zero, List.setIfInBounds_toArray, List.set_cons_zero, List.set_cons_succ])
        (refine wpAnyH_take (i := 13) (v := undef) rfl (by kernel_rfl) (by kernel_rfl) (by kernel_rfl) (fun _ _ _ h => False.elim h) (Or.inr ⟨by kernel_rfl, rfl⟩) (by with_reducible exact hS0) ?_; simp only [Act.put, List.getElem_toArray, List.getElem_cons_succ, List.getElem_cons_zero, List.setIfInBounds_toArray, List.set_cons_zero, List.set_cons_succ])
        (refine wpAnyH_take (i := 14) (v := undef) rfl (by kernel_rfl) (by kernel_rfl) (by kernel_rfl) (fun _ _ _ h => False.elim h) (Or.inr ⟨by kernel_rfl, rfl⟩) (by with_reducible exact hS0) ?_; simp only [Act.put, List.getElem_toArray, List.getElem_cons_succ, List.getElem_cons_zero, List.setIfInBounds_toArray, List.set_cons_zero, List.set_cons_succ])
        (refine wpAnyH_take (i := 15) (v := undef) rfl (by kernel_rfl) (by kernel_rfl) (by kernel_rfl) (fun _ _ _ h => False.elim h) (Or.inr ⟨by kernel_rfl, rfl⟩) (by with_reducible exact hS0) ?_; simp only [Act.put, List.getElem_toArray, List.getElem_cons_succ, List.getElem_cons_zero, List.setIfInBounds_toArray, List.set_cons_zero, List.set_cons_succ])
        (refine wpAnyH_take (i := 16) (v := undef) rfl (by kernel_rfl) (by kernel_rfl) (by kernel_rfl) (fun _ _ _ h => False.elim h) (Or.inr ⟨by kernel_rfl, rfl⟩) (by with_reducible exact hS0) ?_; simp only [Act.put, List.getElem_toArray, List.getElem_cons_succ, List.getElem_cons_zero, List.setIfInBounds_toArray, List.set_cons_zero, List.set_cons_succ])
        (refine wpAnyH_take (i := 17) (v := undef) rfl (by kernel_rfl) (by kernel_rfl) (by kernel_rfl) (fun _ _ _ h => False.elim h) (Or.inr ⟨by kernel_rfl, rfl⟩) (by with_reducible exact hS0) ?_; simp only [Act.put, List.getElem_toArray, List.getElem_cons_succ, List.getElem_cons_zero, List.setIfInBounds_toArray, List.set_cons_zero, List.set_cons_succ])
        (refine wpAnyH_take (i := 18) (v := undef) rfl (by kernel_rfl) (by kernel_rfl) (by kernel_rfl) (fun _ _ _ h => False.elim h) (Or.inr ⟨by kernel_rfl, rfl⟩) (by with_reducible exact hS0) ?_; simp only [Act.put, List.getElem_toArray, List.getElem_cons_succ, List.getElem_cons_zero, List.setIfInBounds_toArray, List.set_cons_zero, List.set_cons_succ])
        (refine wpAnyH_take (i := 19) (v := undef) rfl (by kernel_rfl) (by kernel_rfl) (by kernel_rfl) (fun _ _ _ h => False.elim h) (Or.inr ⟨by kernel_rfl, rfl⟩) (by with_reducible exact hS0) ?_; simp only [Act.put, List.getElem_toArray, List.getElem_cons_succ, List.getElem_cons_zero, List.setIfInBounds_toArray, List.set_cons_zero, List.set_cons_succ])
        (refine wpAnyH_take (i := 20) (v := undef) rfl (by kernel_rfl) (by kernel_rfl) (by kernel_rfl) (fun _ _ _ h => False.elim h) (Or.inr ⟨by kernel_rfl, rfl⟩) (by with_reducible exact hS0) ?_; simp only [Act.put, List.getElem_toArray, List.getElem_cons_succ, List.getElem_cons_zero, List.setIfInBounds_toArray, List.set_cons_zero, List.set_cons_succ])
        (refine wpAnyH_take (i := 21) (v := ?_) rfl (by kernel_rfl) (by kernel_rfl) (by kernel_rfl) (fun _ _ _ h => False.elim h) (Or.inl ⟨by kernel_rfl, ?_⟩) (by with_reducible exact hS0) ?_; rotate_left; (focus (rintro w hSw; (try dsimp only at hSw); go_simp; (try with_reducible rfl))); simp only [Act.put, List.getElem_toArray, List.getElem_cons_succ, List.getElem_cons_zero, List.setIfInBounds_toArray, List.set_cons_zero, List.set_cons_succ])
        refine wpAnyH_done (by kernel_rfl) ?_ _
        exact ⟨rfl, rfl⟩
      clear hd
      go_wp2
      go_roundw
      case rel => exact ⟨i + 1, _, _, by rw [Int.natCast_add]; rfl, by omega, by first | exact HE.out.1 | exact HE.out.1.drew, by first | exact HE.out.2.1 | exact HE.out.2.1.drew, HE.out.2.2.1, HE.out.2.2.2, by first | exact HK.out | exact HK.out.drew⟩
      case measure => simp only [intOf]; omega
    · have hltI : ¬ (i : Int) < (n : Int) := by omega
      have hin : i = n := by omega
      subst hin
      have HZ := Lib.hid (show ∀ W, Keeps (fun _ => False) wr W → RowF W (some ⟨g1, 0, none⟩) (mixed xs i) ∧ RowF W (some ⟨g2, 0, none⟩) (mixed xs i) from fun W hk => ⟨rowF_blk (hb1.keeps hk (fun h => h)) hc1 (mixed_lt HN.out.2 i), rowF_blk (hb2.keeps hk (fun h => h)) hc2 (mixed_lt HN.out.2 i)⟩)
      have hm : i = (mixed xs i).length := by rw [mixed_len]; exact HN.out.1
      have HM := Lib.hid hm
      have HKK := Lib.hid hk
      have zLen := HLen.out.2.2
      clear hb1 hb2 hc1 hc2 hm hk
      go_wp2_with (first
        | (go_at_call 8; with_reducible refine (sum_t _ _ _ _ (mixed xs i) (HZ.out _ (by exact Keeps.refl _ _)).1 HM.out hll).mono ?_; rintro e w8 ⟨r8, rfl, hr8, -, hk8⟩; have H8 := Lib.hid (And.intro hr8 hk8); clear hr8 hk8)
        | (go_at_call 24; with_reducible refine (rsum_t _ _ _ _ (mixed xs i) (HZ.out _ (by exact H8.out.2)).2 HM.out hll).mono ?_; rintro e w9 ⟨r9, rfl, hr9, -, hk9⟩; have H9 := Lib.hid (And.intro hr9 (H8.out.2.trans hk9)); clear hr9 hk9; have hBe := HKK.out.trans (H9.out.2.below (Nat.le_refl _) (fun _ _ h => h) |>.mono HKK.out.size))
        | (go_at_call 18; with_reducible refine (alike_t _ _ _ (by exact H8.out.1.trans H9.out.1.symm)).mono ?_; rintro e w7 ⟨rfl, rfl⟩)
        | (go_at_call 27; with_reducible refine (HLen.out.1 _).mono ?_; rintro e w7 ⟨rfl, rfl⟩)
        | (go_at_call 28; with_reducible refine (HLen.out.2.1 _).mono ?_; rintro e w7 ⟨rfl, rfl⟩)
        | (go_at_call 7; with_reducible refine (HL.out _ hBe).mono ?_; rintro e w10 ⟨rfl, hB10⟩))
      go_ret
      exact ⟨rfl, hB10⟩
end Fl
end Go.Proofs.YtdhelpbhbhihaaaGreatDoor
