/-
  FlT: the sum of a list of floats: the package's and the document's, both by one plain rule.
-/
import Derived.Test.YtdhelpbhbhihaaaGreatDoorFlS
import Derived.Test.YtdhelpbhbhihaaaGreatDoorRlA
import Derived.Handy
namespace Go.Proofs.YtdhelpbhbhihaaaGreatDoor
open Go.RowKit
set_option linter.unusedVariables false
set_option linter.unusedSimpArgs false
attribute [local go_sem] Oper.semAt_some
namespace Fl
open Mem Rl
attribute [local go_sem] run_add run_sub run_quo
theorem Keeps.fw_ {S : Nat → Prop} {w w' : World} (h : Keeps S w w') (op : BinOp) (x y : Nat) : Keeps S w (fw op x y w') := by
  unfold fw
  split
  · exact h
  · exact h.drew
theorem fv_lt (op : BinOp) (x y : Nat) (w : World) : fv op x y w < 18446744073709551616 := by
  unfold fv
  cases h : floatBits op .f64 x y with
  | some r =>
    have := floatBits_wf h
    simp only [Lit.wf] at this
    have h64 : (2 : Nat) ^ 64 = 18446744073709551616 := by decide
    simpa using this
  | none =>
    have h1 : ∀ t, Question.cut (.nanBits .f64 x y) t = (t % 2) * 2 ^ 63 + 0x7ff0000000000000 + 1 + (t / 2) % (2 ^ 52 - 1) := fun _ => rfl
    simp only [h1]
    generalize w.tape w.drawn (.nanBits .f64 x y) = t
    have h2 : (t / 2) % (2 ^ 52 - 1) < 2 ^ 52 - 1 := Nat.mod_lt _ (by decide)
    have h3 : t % 2 < 2 := Nat.mod_lt _ (by decide)
    have h4 : (2 : Nat) ^ 52 - 1 = 4503599627370495 := by decide
    have h5 : (2 : Nat) ^ 63 = 9223372036854775808 := by decide
    rw [h4] at h2 ⊢
    rw [h5]
    omega
/-- is the first at least as great in size? -/
def geW (x y : Nat) : Bool := (F.order (x % 9223372036854775808) (y % 9223372036854775808) == some .gt || F.order (x % 9223372036854775808) (y % 9223372036854775808) == some .eq)
def geC (a b : Option Nat) : Bool := match a, b with
  | some x, some y => geW x y
  | _, _ => false
theorem abs_nan (x : Nat) : (K (x % 9223372036854775808)).1 = 3 ↔ (K x).1 = 3 := by
  rw [K_abs]
  rcases h : K x with ⟨c, v⟩
  split <;> simp_all
theorem geW_nan {x y : Nat} (h : (K x).1 = 3 ∨ (K y).1 = 3) : geW x y = false := by
  have : F.order (x % 9223372036854775808) (y % 9223372036854775808) = none := by
    rw [order_K, if_pos (h.imp (abs_nan x).2 (abs_nan y).2)]
  unfold geW
  rw [this]
  rfl
theorem geW_cls (x y : Nat) : geW x y = geC (cls x) (cls y) := by
  unfold cls
  by_cases hx : (K x).1 = 3
  · rw [if_pos hx, geW_nan (.inl hx)]; rfl
  · by_cases hy : (K y).1 = 3
    · rw [if_pos hy, if_neg hx, geW_nan (.inr hy)]; rfl
    · rw [if_neg hx, if_neg hy]; rfl
/-- one number more: the sum, and what was lost -/
def stepO (p : Option Nat × Option Nat) (x : Option Nat) : Option Nat × Option Nat :=
  let t := opO .add p.1 x
  (t, if geC p.1 x then opO .add p.2 (opO .add (opO .sub p.1 t) x) else opO .add p.2 (opO .add (opO .sub x t) p.1))
def runO (l : List (Option Nat)) : Option Nat × Option Nat := l.foldl stepO (cls 0, cls 0)
def sumO (l : List (Option Nat)) : Option Nat := opO .add (runO l).1 (runO l).2
theorem runO_snoc (l : List (Option Nat)) (x : Option Nat) : runO (l ++ [x]) = stepO (runO l) x := by simp [runO]
theorem run_at {xs : List Nat} {i : Nat} {x : Nat} (h : xs[i]? = some x) : runO ((xs.take (i + 1)).map cls) = stepO (runO ((xs.take i).map cls)) (cls x) := by
  rw [List.take_add_one, h, List.map_append]
  exact runO_snoc _ _
theorem andNot_top {x : Nat} (h : x < 18446744073709551616) : bits .andNot .u64 (x : Int) 9223372036854775808 = ((x % 9223372036854775808 : Nat) : Int) := by
  have e : bits .andNot .u64 (x : Int) 9223372036854775808 = IntKind.u64.wrap (((BitVec.ofInt 64 (x : Int)) &&& ~~~(BitVec.ofInt 64 9223372036854775808)).toNat : Int) := rfl
  rw [e]
  have h1 : ~~~(BitVec.ofInt 64 9223372036854775808) = BitVec.ofNat 64 (2 ^ 63 - 1) := by decide
  rw [h1, BitVec.toNat_and, BitVec.ofInt_natCast, BitVec.toNat_ofNat, BitVec.toNat_ofNat]
  have h2 : (2 ^ 63 - 1) % 2 ^ 64 = 2 ^ 63 - 1 := by decide
  have h3 : x % 2 ^ 64 = x := Nat.mod_eq_of_lt (by simpa using h)
  rw [h2, h3, Nat.and_two_pow_sub_one_eq_mod]
  have h4 : (2 : Nat) ^ 63 = 9223372036854775808 := by decide
  rw [h4]
  have h5 : x % 9223372036854775808 < 9223372036854775808 := Nat.mod_lt _ (by omega)
  simp only [IntKind.wrap_u64]
  omega
theorem abs_t (x : Nat) (h : x < 18446744073709551616) (w : World) : Calls Tryz.prog 21 #[.float .f64 x] w fun e w' => e = .returned (.float .f64 (x % 9223372036854775808)) ∧ w = w' := by
  have hd := ext_of
  have hb := ext_bits
  have hn := andNot_top h
  have hx : ((x % 9223372036854775808 : Nat) : Int).toNat = x % 9223372036854775808 := by omega
  generalize x % 9223372036854775808 = y at *
  go_enter Tryz.func21, Tryz.ntmps21
  go_wp2
  go_ret
  exact ⟨rfl, rfl⟩
/-- a row of floats, from the beginning of its block -/
def RowF (w : World) (a : Option Addr) (xs : List Nat) : Prop := (∀ (i x : Nat), xs[i]? = some x → ∃ g, a = some ⟨g, 0, none⟩ ∧ w.cell? ⟨g, i, none⟩ = some (.float .f64 x)) ∧ ∀ (i x : Nat), xs[i]? = some x → x < 18446744073709551616
theorem RowF.keeps {S : Nat → Prop} {w w' : World} {a : Option Addr} {xs : List Nat} (h : RowF w a xs) (k : Keeps S w w') (hs : ∀ g, a = some ⟨g, 0, none⟩ → ¬ S g) : RowF w' a xs :=
  ⟨fun i x hx => by
    obtain ⟨g, rfl, hc⟩ := h.1 i x hx
    exact ⟨g, rfl, k.cell hc (hs g rfl)⟩, h.2⟩
set_option maxHeartbeats 4000000 in
theorem sum_t (w : World) (a : Option Addr) (n cap : Nat) (xs : List Nat) (h : RowF w a xs) (hn : n = xs.length) (hl : n ≤ 4611686018427387904) : Calls Tryz.prog 8 #[.slice a n cap] w fun e w' => ∃ r, e = .returned (.float .f64 r) ∧ cls r = sumO (xs.map cls) ∧ r < 18446744073709551616 ∧ Keeps (fun _ => False) w w' := by
  have H := Lib.hid h
  have HN := Lib.hid hn
  clear h hn
  go_enter Tryz.func8, Tryz.ntmps8
  go_wp2
  go_loopw [3, 4, 6, 7, 10] (fun s c _ _ q wr => ∃ (i sv cv : Nat), q = .int .i64 (i : Int) ∧ i ≤ n ∧ s = .float .f64 sv ∧ c = .float .f64 cv ∧ (cls sv, cls cv) = runO ((xs.take i).map cls) ∧ sv < 18446744073709551616 ∧ Keeps (fun _ => False) w wr) (fun _ _ _ _ q _ => n - (intOf q).toNat)
  case atStart => exact ⟨0, 0, 0, rfl, by omega, rfl, rfl, rfl, by omega, Keeps.refl _ _⟩
  case round =>
    obtain ⟨i, sv, cv, rfl, hi, rfl, rfl, hr, hsv, hk⟩ := hrel
    have HR := Lib.hid (And.intro hr hk)
    by_cases hlt : i < n
    · obtain ⟨x, hx⟩ : ∃ x, xs[i]? = some x := ⟨_, List.getElem?_eq_getElem (by have := HN.out; omega)⟩
      obtain ⟨g, rfl, hc⟩ := (H.out.keeps hk (fun _ _ h => h)).1 i x hx
      have hxl := H.out.2 i x hx
      have HX := Lib.hid hx
      have ha1 := abs_t sv hsv
      have ha2 := abs_t x hxl
      have HA := Lib.hid (And.intro ha1 ha2)
      obtain ⟨b, hb⟩ : ∃ b, b = geW sv x := ⟨_, rfl⟩
      have hb1 : (FloatKind.f64.format.order (sv % 9223372036854775808) (x % 9223372036854775808) == some .gt || FloatKind.f64.format.order (sv % 9223372036854775808) (x % 9223372036854775808) == some .eq) = b := hb.symm
      have HB := Lib.hid hb
      have hltI : (i : Int) < (n : Int) := by omega
      clear hr hk hx ha1 ha2 hb hxl hsv
      generalize hy1 : sv % 9223372036854775808 = y1 at hb1 HA
      generalize hy2 : x % 9223372036854775808 = y2 at hb1 HA
      cases b
      all_goals
        go_wp2_with (go_at_call 21; first | ((with_reducible refine (HA.out.1 _).mono ?_); rintro e w5 ⟨rfl, rfl⟩) | ((with_reducible refine (HA.out.2 _).mono ?_); rintro e w5 ⟨rfl, rfl⟩))
        go_roundw
        case rel =>
          refine ⟨i + 1, _, _, by rw [Int.natCast_add]; rfl, by omega, rfl, rfl, ?_, fv_lt _ _ _ _, ?_⟩
          · rw [run_at HX.out, ← HR.out.1]
            simp only [stepO, cls_op, ← geW_cls, ← HB.out]
            simp
          · have hK := HR.out.2
            (repeat (first | exact hK | refine Keeps.fw_ ?_ _ _ _))
        case measure => simp only [intOf]; omega
    · have hltI : ¬ (i : Int) < (n : Int) := by omega
      have hin : i = n := by omega
      clear hr hk hsv
      go_wp2
      go_ret
      refine ⟨_, rfl, ?_, fv_lt _ _ _ _, ?_⟩
      · rw [cls_op]
        have e := HR.out.1
        rw [List.take_of_length_le (by have := HN.out; omega)] at e
        unfold sumO
        rw [← e]
      · exact Keeps.fw_ HR.out.2 _ _ _
/-- a number without its sign, as the document takes it -/
def szv (x : Nat) : Nat := if F.order x 0 = some .lt then (F.sub 0 x).getD 0 else x
theorem lt_nought {x : Nat} (h : F.order x 0 = some .lt) : ∃ r, F.sub 0 x = some r ∧ K r = K (x % 9223372036854775808) := by
  rw [order_K, K_nought] at h
  by_cases h3 : (K x).1 = 3
  · rw [if_pos (.inl h3)] at h; cases h
  · rw [if_neg (by simp [h3])] at h
    by_cases h4 : (K x).1 < 1 ∨ ((K x).1 = 1 ∧ (K x).2 < 0)
    · rcases h4 with h5 | ⟨h5, h6⟩
      · have h7 : ∃ s, F.read x = .infinity s ∧ s = true := by
          unfold K at h5
          cases hr : F.read x with
          | nan s t => rw [hr] at h5; simp [key] at h5
          | number s m i => rw [hr] at h5; simp [key] at h5
          | infinity s =>
            rw [hr] at h5
            cases s
            · simp [key] at h5
            · exact ⟨true, rfl, rfl⟩
        obtain ⟨s, h8, rfl⟩ := h7
        have h9 : F.read 0 = .number false 0 F.leastPlace := by decide
        refine ⟨F.infRung, ?_, ?_⟩
        · unfold Ieee.Format.sub
          rw [h8, h9]
          rfl
        · have hk : K x = (0, 0) := by unfold K; rw [h8]; rfl
          rw [K_abs, hk]
          have : F.read F.infRung = .infinity false := by decide
          unfold K
          rw [this]
          rfl
      · have hk : K x = (1, (K x).2) := by rw [← h5]
        obtain ⟨r, h8, h9⟩ := sub_rep K_nought hk (by rw [Int.zero_sub]; exact rep_neg (rep_of hk))
        refine ⟨r, h8, ?_⟩
        rw [h9, K_abs, hk]
        simp only [Prod.mk.injEq, true_and]
        omega
    · rw [if_neg h4] at h
      split at h <;> cases h
theorem szv_K (x : Nat) : K (szv x) = K (x % 9223372036854775808) := by
  unfold szv
  by_cases h : F.order x 0 = some .lt
  · rw [if_pos h]
    obtain ⟨r, h1, h2⟩ := lt_nought h
    rw [h1]
    exact h2
  · rw [if_neg h]
    rw [order_K, K_nought] at h
    rw [K_abs]
    rcases hk : K x with ⟨c, v⟩
    rw [hk] at h
    simp only at h
    by_cases h3 : c = 3
    · subst h3; rfl
    · rw [if_neg (by simp [h3])] at h
      by_cases h4 : c < 1 ∨ (c = 1 ∧ v < 0)
      · rw [if_pos h4] at h; exact absurd rfl h
      · have hc1 : ¬ c < 1 := fun hh => h4 (.inl hh)
        split
        · rename_i q hq
          simp only [Prod.mk.injEq] at hq
          omega
        · rename_i q hq
          simp only [Prod.mk.injEq] at hq ⊢
          have hv : ¬ v < 0 := fun hh => h4 (.inr ⟨hq.1, hh⟩)
          omega
        · rfl
theorem size_t (x : Nat) (w : World) : Calls Tryz.prog 43 #[.float .f64 x] w fun e w' => e = .returned (.float .f64 (szv x)) ∧ w = w' := by
  by_cases h : F.order x 0 = some .lt
  · have h1 : (FloatKind.f64.format.order x 0 == some .lt) = true := by rw [h]; rfl
    obtain ⟨r, h2, h3⟩ := lt_nought h
    have h4 : szv x = r := by unfold szv; rw [if_pos h, h2]; rfl
    have h5 : floatBits .sub .f64 0 x = some r := h2
    have h6 : ∀ W, fw .sub 0 x W = W := fun W => by unfold fw; rw [h5]; rfl
    have h7 : ∀ W, fv .sub 0 x W = r := fun W => by unfold fv; rw [h5]
    rw [h4]
    clear h h2 h3 h4 h5
    go_enter Tryz.func43, Tryz.ntmps43
    go_wp2
    go_ret
    exact ⟨rfl, rfl⟩
  · have h1 : (FloatKind.f64.format.order x 0 == some .lt) = false := by simpa using h
    have h4 : szv x = x := by unfold szv; rw [if_neg h]
    rw [h4]
    clear h h4
    go_enter Tryz.func43, Tryz.ntmps43
    go_wp2
    go_ret
    exact ⟨rfl, rfl⟩
set_option maxHeartbeats 4000000 in
theorem rsum_t (w : World) (a : Option Addr) (n cap : Nat) (xs : List Nat) (h : RowF w a xs) (hn : n = xs.length) (hl : n ≤ 4611686018427387904) : Calls Tryz.prog 24 #[.slice a n cap] w fun e w' => ∃ r, e = .returned (.float .f64 r) ∧ cls r = sumO (xs.map cls) ∧ r < 18446744073709551616 ∧ Keeps (fun _ => False) w w' := by
  have H := Lib.hid h
  have HN := Lib.hid hn
  clear h hn
  go_enter Tryz.func24, Tryz.ntmps24
  go_wp2
  go_loopw [3, 4, 5, 6, 7, 8, 9, 10] (fun s c q _ _ _ _ _ wr => ∃ (i sv cv : Nat), q = .int .i64 (i : Int) ∧ i ≤ n ∧ s = .float .f64 sv ∧ c = .float .f64 cv ∧ (cls sv, cls cv) = runO ((xs.take i).map cls) ∧ sv < 18446744073709551616 ∧ Keeps (fun _ => False) w wr) (fun _ _ q _ _ _ _ _ _ => n - (intOf q).toNat)
  case atStart => exact ⟨0, 0, 0, rfl, by omega, rfl, rfl, rfl, by omega, Keeps.refl _ _⟩
  case round =>
    obtain ⟨i, sv, cv, rfl, hi, rfl, rfl, hr, hsv, hk⟩ := hrel
    have HR := Lib.hid (And.intro hr hk)
    by_cases hlt : i < n
    · obtain ⟨x, hx⟩ : ∃ x, xs[i]? = some x := ⟨_, List.getElem?_eq_getElem (by have := HN.out; omega)⟩
      obtain ⟨g, rfl, hc⟩ := (H.out.keeps hk (fun _ _ h => h)).1 i x hx
      have HX := Lib.hid hx
      have HA := Lib.hid (And.intro (size_t sv) (size_t x))
      obtain ⟨b, hb⟩ : ∃ b, b = geW sv x := ⟨_, rfl⟩
      have hb1 : (FloatKind.f64.format.order (szv sv) (szv x) == some .gt || FloatKind.f64.format.order (szv sv) (szv x) == some .eq) = b := by
        rw [hb, geW, order_congr (szv_K sv) (szv_K x)]
      have HB := Lib.hid hb
      have hltI : (i : Int) < (n : Int) := by omega
      clear hr hk hx hb hsv
      generalize szv sv = y1 at hb1 HA
      generalize szv x = y2 at hb1 HA
      cases b
      all_goals
        go_wp2_with (go_at_call 43; first | ((with_reducible refine (HA.out.1 _).mono ?_); rintro e w5 ⟨rfl, rfl⟩) | ((with_reducible refine (HA.out.2 _).mono ?_); rintro e w5 ⟨rfl, rfl⟩))
        go_roundw
        case rel =>
          refine ⟨i + 1, _, _, by rw [Int.natCast_add]; rfl, by omega, rfl, rfl, ?_, fv_lt _ _ _ _, ?_⟩
          · rw [run_at HX.out, ← HR.out.1]
            simp only [stepO, cls_op, ← geW_cls, ← HB.out]
            simp
          · have hK := HR.out.2
            (repeat (first | exact hK | refine Keeps.fw_ ?_ _ _ _))
        case measure => simp only [intOf]; omega
    · have hltI : ¬ (i : Int) < (n : Int) := by omega
      have hin : i = n := by omega
      clear hr hk hsv
      go_wp2
      go_ret
      refine ⟨_, rfl, ?_, fv_lt _ _ _ _, ?_⟩
      · rw [cls_op]
        have e := HR.out.1
        rw [List.take_of_length_le (by have := HN.out; omega)] at e
        unfold sumO
        rw [← e]
      · exact Keeps.fw_ HR.out.2 _ _ _
end Fl
end Go.Proofs.YtdhelpbhbhihaaaGreatDoor
