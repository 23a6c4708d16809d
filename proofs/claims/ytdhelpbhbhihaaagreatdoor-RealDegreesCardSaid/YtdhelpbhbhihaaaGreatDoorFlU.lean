/-
  FlU: alike, the mean, the length of a way, the numbers by their bits.
-/
import Derived.Test.YtdhelpbhbhihaaaGreatDoorFlT
import Derived.Test.YtdhelpbhbhihaaaGreatDoorAppB
import Derived.Deep.RegionHeld3
namespace Go.Proofs.YtdhelpbhbhihaaaGreatDoor
open Go.RowKit
set_option linter.unusedVariables false
set_option linter.unusedSimpArgs false
attribute [local go_sem] Oper.semAt_some
namespace Fl
open Mem Rl
attribute [local go_sem] run_add run_sub run_quo
theorem cls_some {x y : Nat} (h : cls x = some y) : x = y ∧ (K x).1 ≠ 3 := by
  unfold cls at h
  split at h
  · cases h
  · rename_i hk; exact ⟨Option.some.inj h, hk⟩
theorem cls_none {x : Nat} (h : cls x = none) : (K x).1 = 3 := by
  unfold cls at h
  split at h
  · assumption
  · cases h
theorem self_num {x : Nat} (h : (K x).1 ≠ 3) : FloatKind.f64.format.order x x = some .eq := by
  rcases self x with ⟨h1, _⟩ | ⟨_, h2⟩
  · exact h1
  · exact absurd h2 h
theorem self_nan {x : Nat} (h : (K x).1 = 3) (y : Nat) : FloatKind.f64.format.order x y = none := by
  rw [order_K, if_pos (.inl h)]
theorem alike_t (x y : Nat) (w : World) (h : cls x = cls y) : Calls Tryz.prog 18 #[.float .f64 x, .float .f64 y] w fun e w' => e = .returned (.bool true) ∧ w = w' := by
  cases hy : cls y with
  | some z =>
    rw [hy] at h
    obtain ⟨rfl, h1⟩ := cls_some h
    obtain ⟨rfl, h2⟩ := cls_some hy
    have o1 := self_num h1
    clear h hy h1 h2
    go_enter Tryz.func18, Tryz.ntmps18
    go_wp2
    go_ret
    exact ⟨rfl, rfl⟩
  | none =>
    rw [hy] at h
    have o1 := self_nan (cls_none h) y
    have o2 := self_nan (cls_none h) x
    have o3 := self_nan (cls_none hy) y
    clear h hy
    go_enter Tryz.func18, Tryz.ntmps18
    go_wp2
    go_ret
    exact ⟨rfl, rfl⟩
theorem nan_t (w : World) : Calls Tryz.prog 42 #[] w fun e w' => e = .returned (.float .f64 9221120237041090561) ∧ w = w' := by
  have hd := ext_of
  go_enter Tryz.func42, Tryz.ntmps42
  go_wp2
  go_ret
  exact ⟨rfl, rfl⟩
/-- the mean -/
def meanO (l : List (Option Nat)) : Option Nat := if l = [] then none else opO .quo (sumO l) (cls (floatOfInt .f64 (l.length : Int)))
theorem nan_cls : cls 9221120237041090561 = none := by
  unfold cls
  rw [if_pos ((K_nan _).2 (by decide))]
theorem mean_t (w : World) (a : Option Addr) (n cap : Nat) (xs : List Nat) (h : RowF w a xs) (hn : n = xs.length) (hl : n ≤ 4611686018427387904) : Calls Tryz.prog 23 #[.slice a n cap] w fun e w' => ∃ r, e = .returned (.float .f64 r) ∧ cls r = meanO (xs.map cls) ∧ Keeps (fun _ => False) w w' := by
  have c1 := sum_t w a n cap xs h hn hl
  by_cases h0 : n = 0
  · have h0I : (n : Int) = 0 := by omega
    have hx : xs = [] := List.length_eq_zero_iff.1 (by omega)
    subst hx
    subst h0
    clear c1 h hn hl h0I
    go_enter Tryz.func23, Tryz.ntmps23
    go_wp2_with (go_at_call 42; with_reducible refine (nan_t _).mono ?_; rintro e w5 ⟨rfl, rfl⟩)
    go_ret
    exact ⟨_, rfl, nan_cls, Keeps.refl _ _⟩
  · have h0I : ¬ (n : Int) = 0 := by omega
    have HN := Lib.hid (And.intro hn h0)
    clear h hn hl h0
    go_enter Tryz.func23, Tryz.ntmps23
    go_wp2_with (go_at_call 8; with_reducible refine c1.mono ?_; rintro e w5 ⟨r, rfl, hr, hrl, hk⟩; have HR := Lib.hid (And.intro hr hk); clear hr hk hrl)
    go_ret
    refine ⟨_, rfl, ?_, Keeps.fw_ HR.out.2 _ _ _⟩
    rw [cls_op, HR.out.1, meanO, if_neg (by simp; intro hx; have := HN.out; rw [hx] at this; simp at this), List.length_map, HN.out.1]
theorem rmean_t (w : World) (a : Option Addr) (n cap : Nat) (xs : List Nat) (h : RowF w a xs) (hn : n = xs.length) (hl : n ≤ 4611686018427387904) : Calls Tryz.prog 25 #[.slice a n cap] w fun e w' => ∃ r, e = .returned (.float .f64 r) ∧ cls r = meanO (xs.map cls) ∧ Keeps (fun _ => False) w w' := by
  have c1 := rsum_t w a n cap xs h hn hl
  by_cases h0 : n = 0
  · have h0I : (n : Int) = 0 := by omega
    have hx : xs = [] := List.length_eq_zero_iff.1 (by omega)
    subst hx
    subst h0
    clear c1 h hn hl h0I
    go_enter Tryz.func25, Tryz.ntmps25
    go_wp2_with (go_at_call 42; with_reducible refine (nan_t _).mono ?_; rintro e w5 ⟨rfl, rfl⟩)
    go_ret
    exact ⟨_, rfl, nan_cls, Keeps.refl _ _⟩
  · have h0I : ¬ (n : Int) = 0 := by omega
    have HN := Lib.hid (And.intro hn h0)
    clear h hn hl h0
    go_enter Tryz.func25, Tryz.ntmps25
    go_wp2_with (go_at_call 24; with_reducible refine c1.mono ?_; rintro e w5 ⟨r, rfl, hr, hrl, hk⟩; have HR := Lib.hid (And.intro hr hk); clear hr hk hrl)
    go_ret
    refine ⟨_, rfl, ?_, Keeps.fw_ HR.out.2 _ _ _⟩
    rw [cls_op, HR.out.1, meanO, if_neg (by simp; intro hx; have := HN.out; rw [hx] at this; simp at this), List.length_map, HN.out.1]
/-- no number, and no number below nought -/
def NonNeg (x : Nat) : Prop := F.read x = .infinity false ∨ ∃ m i, F.read x = .number false m i
theorem read_pos {r : Nat} (h : r ≤ F.infRung) : NonNeg (F.word false r) := by
  have e : F.word false r = r := by simp [Ieee.Format.word]
  rw [e]
  rw [inf_eq] at h
  have h1 : r / F.signWeight % 2 = 0 := by rw [weight_eq]; omega
  have h2 : r % F.signWeight = r := by rw [weight_eq]; omega
  unfold NonNeg Ieee.Format.read
  simp only [h1, h2]
  by_cases h3 : r < F.binade
  · rw [if_pos h3]; exact .inr ⟨_, _, rfl⟩
  · rw [if_neg h3]
    by_cases h4 : r < F.infRung
    · rw [if_pos h4]; exact .inr ⟨_, _, rfl⟩
    · rw [if_neg h4, if_pos (by rw [inf_eq] at h4 ⊢; omega)]; exact .inl rfl
theorem write_pos (m : Nat) (i : Int) : NonNeg (F.nearest false m i) := by
  unfold Ieee.Format.nearest
  split
  · exact read_pos (by omega)
  · exact read_pos (by omega)
theorem mul_self {x : Nat} {a : Int} (h : K x = (1, a)) : ∃ r, F.mul x x = some r ∧ NonNeg r := by
  obtain ⟨s, m, i, h1, -, -⟩ := fin_of h
  unfold Ieee.Format.mul
  rw [h1]
  refine ⟨_, rfl, ?_⟩
  simp only [Ieee.Format.write, Bool.xor_self]
  exact write_pos _ _
theorem add_pos {x y : Nat} (hx : NonNeg x) (hy : NonNeg y) : ∃ r, F.add x y = some r ∧ NonNeg r := by
  unfold Ieee.Format.add
  rcases hx with hx | ⟨m, i, hx⟩ <;> rcases hy with hy | ⟨n, j, hy⟩ <;> rw [hx, hy]
  · exact ⟨_, rfl, read_pos (Nat.le_refl _)⟩
  · exact ⟨_, rfl, read_pos (Nat.le_refl _)⟩
  · exact ⟨_, rfl, read_pos (Nat.le_refl _)⟩
  · refine ⟨_, rfl, ?_⟩
    simp only [Ieee.Format.write, Bool.and_self]
    have h1 : ∀ k, 0 ≤ Ieee.signed false m k := fun k => by rw [signed_pos false m k]; omega
    have h2 : ∀ k, 0 ≤ Ieee.signed false n k := fun k => by rw [signed_pos false n k]; omega
    have h3 := h1 (i - min i j).toNat
    have h4 := h2 (j - min i j).toNat
    generalize Ieee.signed false m (i - min i j).toNat = p at h3 ⊢
    generalize Ieee.signed false n (j - min i j).toNat = q at h4 ⊢
    have e : (if p + q = 0 then false else decide (p + q < 0)) = false := by
      split
      · rfl
      · exact decide_eq_false (by omega)
    rw [e]
    exact write_pos _ _
theorem sqrt_pos {x : Nat} (hx : NonNeg x) : ∃ r, F.sqrt x = some r ∧ (K r).1 ≠ 3 := by
  unfold Ieee.Format.sqrt
  rcases hx with hx | ⟨m, i, hx⟩ <;> rw [hx]
  · exact ⟨_, rfl, write_num _ rfl⟩
  · simp only [Ieee.Datum.root]
    split
    · exact ⟨_, rfl, write_num _ rfl⟩
    · exact ⟨_, rfl, write_num _ rfl⟩
theorem int_fin {n : Int} (h : n.natAbs < 18446744073709551616) : ∃ a, K (floatOfInt .f64 n) = (1, a) := by
  have h0 : floatOfInt .f64 n = F.nearest (decide (n < 0)) n.natAbs 0 := rfl
  have h1 := scale_to (decide (n < 0)) n.natAbs (base := 0) (by rw [least_eq]; omega)
  have h2 : ((0 : Int) - F.leastPlace).toNat = 1074 := by rw [least_eq]; rfl
  have e := congrArg K (h0.trans (h1.trans (congrArg (fun t => F.nearest (decide (n < 0)) (n.natAbs * 2 ^ t) F.leastPlace) h2)))
  try simp only at e
  generalize 1074 = k at e h2
  by_cases hn : n.natAbs = 0
  · rw [hn, Nat.zero_mul] at e
    exact ⟨0, e.trans (K_zero _ _)⟩
  · have hl := log2_up hn k
    have e64 : (2 : Nat) ^ 64 = 18446744073709551616 := by decide
    have h64 : n.natAbs.log2 < 64 := (Nat.log2_lt hn).2 (by omega)
    have hk : k = 1074 := by rw [least_eq] at h2; omega
    have hp := Nat.two_pow_pos k
    exact ⟨_, e.trans (K_nearest _ (Nat.mul_ne_zero hn (by omega)) (by omega) (.inl (by omega)))⟩
theorem run_mul_some {P : Program} {t : TypeId} {x y r : Nat} (h : F.mul x y = some r) (w : World) : (binOp .mul t (.float .f64 x) (.float .f64 y)).run P w = .ok (.float .f64 r) w := run_float_arith w .mul t .f64 x y r h
theorem run_add_some {P : Program} {t : TypeId} {x y r : Nat} (h : F.add x y = some r) (w : World) : (binOp .add t (.float .f64 x) (.float .f64 y)).run P w = .ok (.float .f64 r) w := run_float_arith w .add t .f64 x y r h
theorem sqrt_pure {x r : Nat} (h : F.sqrt x = some r) : Extern.MathSqrt.sqrt #[.float .f64 x] = pure (.float .f64 r) := by
  show (match FloatKind.f64.format.sqrt x with
    | some r => (pure (.float .f64 r) : Sem Value)
    | none => do pure (.float .f64 (← choose (.nanBits .f64 x x)))) = _
  rw [show FloatKind.f64.format.sqrt x = some r from h]
theorem ext_sqrt {x r : Nat} (h : F.sqrt x = some r) (W : World) : (callFunc 62 #[.float .f64 x]).run Tryz.prog W = .ok (.value (.float .f64 r)) W := by
  rw [run_callFunc_extern Tryz.func62 (by kernel_rfl) (by kernel_rfl) (by kernel_rfl) (e := Extern.MathSqrt.sqrt) (by kernel_rfl)]
  rw [sqrt_pure h]
  rfl
theorem sqrt_t {x r : Nat} (h : F.sqrt x = some r) (w : World) : Calls Tryz.prog 44 #[.float .f64 x] w fun e w' => e = .returned (.float .f64 r) ∧ w = w' := by
  have hs := ext_sqrt h
  go_enter Tryz.func44, Tryz.ntmps44
  go_wp2
  go_ret
  exact ⟨rfl, rfl⟩
/-- the steps of a way's length -/
theorem way_len (dx dy : Int) (hx : dx.natAbs < 18446744073709551616) (hy : dy.natAbs < 18446744073709551616) : ∃ p q s r, F.mul (floatOfInt .f64 dx) (floatOfInt .f64 dx) = some p ∧ F.mul (floatOfInt .f64 dy) (floatOfInt .f64 dy) = some q ∧ F.add p q = some s ∧ F.sqrt s = some r ∧ (K r).1 ≠ 3 := by
  obtain ⟨a, ha⟩ := int_fin hx
  obtain ⟨b, hb⟩ := int_fin hy
  obtain ⟨p, h1, h2⟩ := mul_self ha
  obtain ⟨q, h3, h4⟩ := mul_self hb
  obtain ⟨s, h5, h6⟩ := add_pos h2 h4
  obtain ⟨r, h7, h8⟩ := sqrt_pos h6
  exact ⟨p, q, s, r, h1, h3, h5, h7, h8⟩
theorem len_t (dx dy : Int) {p q s r : Nat} (h1 : F.mul (floatOfInt .f64 dx) (floatOfInt .f64 dx) = some p) (h2 : F.mul (floatOfInt .f64 dy) (floatOfInt .f64 dy) = some q) (h3 : F.add p q = some s) (h4 : F.sqrt s = some r) (w : World) : Calls Tryz.prog 27 #[.int .i64 dx, .int .i64 dy] w fun e w' => e = .returned (.float .f64 r) ∧ w = w' := by
  have c1 := fun t W => run_mul_some (P := Tryz.prog) (t := t) h1 W
  have c2 := fun t W => run_mul_some (P := Tryz.prog) (t := t) h2 W
  have c3 := fun t W => run_add_some (P := Tryz.prog) (t := t) h3 W
  have HS := Lib.hid (sqrt_t h4)
  have e : ∀ W, fv .add p q W = s := fun W => by unfold fv; rw [show floatBits .add .f64 p q = some s from h3]
  have e2 : ∀ W, fw .add p q W = W := fun W => by unfold fw; rw [show floatBits .add .f64 p q = some s from h3]; rfl
  clear h1 h2 h3 h4
  go_enter Tryz.func27, Tryz.ntmps27
  go_wp2_with (go_at_call 44; with_reducible refine (HS.out _).mono ?_; rintro e w5 ⟨rfl, rfl⟩)
  go_ret
  exact ⟨rfl, rfl⟩
theorem rlen_t (dx dy : Int) {p q s r : Nat} (h1 : F.mul (floatOfInt .f64 dx) (floatOfInt .f64 dx) = some p) (h2 : F.mul (floatOfInt .f64 dy) (floatOfInt .f64 dy) = some q) (h3 : F.add p q = some s) (h4 : F.sqrt s = some r) (w : World) : Calls Tryz.prog 28 #[.int .i64 dx, .int .i64 dy] w fun e w' => e = .returned (.float .f64 r) ∧ w = w' := by
  have c1 := fun t W => run_mul_some (P := Tryz.prog) (t := t) h1 W
  have c2 := fun t W => run_mul_some (P := Tryz.prog) (t := t) h2 W
  have c3 := fun t W => run_add_some (P := Tryz.prog) (t := t) h3 W
  have HS := Lib.hid (sqrt_t h4)
  have e : ∀ W, fv .add p q W = s := fun W => by unfold fv; rw [show floatBits .add .f64 p q = some s from h3]
  have e2 : ∀ W, fw .add p q W = W := fun W => by unfold fw; rw [show floatBits .add .f64 p q = some s from h3]; rfl
  clear h1 h2 h3 h4
  go_enter Tryz.func28, Tryz.ntmps28
  go_wp2_with (go_at_call 44; with_reducible refine (HS.out _).mono ?_; rintro e w5 ⟨rfl, rfl⟩)
  go_ret
  exact ⟨rfl, rfl⟩
theorem take_at {α : Type} {l : List α} {i : Nat} {x : α} (h : l[i]? = some x) : l.take (i + 1) = l.take i ++ [x] := by rw [List.take_add_one, h]; rfl
def ff (x : Nat) : List Value := [.float .f64 x]
theorem fInfo : (Tryz.prog.info? 25).map (fun i => (i.zero, i.size, i.bytes)) = some (some (.float .f64 0), 1, 8) := by kernel_rfl
theorem elF : ElB Tryz.prog 23 25 ff 1 8 := by
  obtain ⟨i, hi, he⟩ := Option.map_eq_some_iff.1 fInfo
  simp only [Prod.mk.injEq] at he
  obtain ⟨h1, h2, h3⟩ := he
  exact ⟨Tryz.underlying23, ⟨i, _, hi, h1, h2, h3, rfl⟩, by decide, fun _ => rfl, fun x u hu => by simp [ff] at hu; subst hu; rfl⟩
theorem ff_get (l : List Nat) (i : Nat) : (l.flatMap ff)[i]? = (l[i]?).map (Value.float .f64) := by
  have e : l.flatMap ff = l.map (Value.float .f64) := by
    induction l with
    | nil => rfl
    | cons a l ih => rw [List.flatMap_cons, ih]; rfl
  rw [e, List.getElem?_map]
theorem newF (w : World) (x : Nat) : ∀ j u, (([x] : List Nat).flatMap ff)[j]? = some u → (w.alloc (.cells #[.float .f64 x] 25)).cell? ((⟨w.heap.size, 0, none⟩ : Addr).add j) = some u := Mem.news_new w 25 [.float .f64 x]
/-- a row of words that came in -/
def RowU (w : World) (a : Option Addr) (xs : List Nat) : Prop := ∀ (i x : Nat), xs[i]? = some x → ∃ g o, a = some ⟨g, o, none⟩ ∧ w.cell? ⟨g, o + i, none⟩ = some (.int .u64 x)
theorem RowU.keeps {w w' : World} {a : Option Addr} {xs : List Nat} (h : RowU w a xs) (k : Keeps (fun _ => False) w w') : RowU w' a xs := fun i x hx => by
  obtain ⟨g, o, rfl, hc⟩ := h i x hx
  exact ⟨g, o, rfl, k.cell hc (fun h => h)⟩
theorem own_cap {w : World} {base n m : Nat} {e : TypeId} {size : Nat} {a : Option Addr} {cap : Nat} {xs : List Value} (h : w.ownsRow base e size (.slice a n cap) m xs) : n ≤ cap := by
  rcases h.2 with ⟨hv, h0⟩ | ⟨g, c, cur, hv, _, _, hle, _⟩
  · simp only [Value.slice.injEq] at hv; omega
  · simp only [Value.slice.injEq] at hv; omega
set_option maxHeartbeats 4000000 in
theorem numbers_t (w : World) (ba : Option Addr) (n bc : Nat) (xs : List Nat) (h : RowU w ba xs) (hn : n = xs.length) (hl : (n + 1) * 8 ≤ 140737488355328) : Calls Tryz.prog 22 #[.slice ba n bc] w fun e w' => ∃ g cap, e = .returned (.slice (some ⟨g, 0, none⟩) n cap) ∧ w'.ownsRow w.heap.size 25 1 (.slice (some ⟨g, 0, none⟩) (n + 1) cap) (n + 1) ((xs ++ [4635118810238550016]).flatMap ff) ∧ Keeps (fun _ => False) w w' := by
  have H := Lib.hid h
  have HN := Lib.hid hn
  have hl2 : (n : Int) ≤ 17592186044416 := by omega
  clear h hn
  go_enter Tryz.func22, Tryz.ntmps22
  go_wp2
  go_loopw [3, 4] (fun v q wr => ∃ (i : Nat) (la : Option Addr) (lc : Nat), q = .int .i64 (i : Int) ∧ i ≤ n ∧ v = .slice la i lc ∧ wr.ownsRow w.heap.size 25 1 (.slice la i lc) i ((xs.take i).flatMap ff) ∧ Keeps (fun _ => False) w wr) (fun _ q _ => n - (intOf q).toNat)
  case atStart => exact ⟨0, none, 0, rfl, by omega, rfl, World.ownsRow_nil _ _ _ _, Keeps.refl _ _⟩
  case round =>
    obtain ⟨i, la, lc, rfl, hi, rfl, hO, hk⟩ := hrel
    have HO := Lib.hid hO
    have HK := Lib.hid hk
    by_cases hlt : i < n
    · obtain ⟨x, hx⟩ : ∃ x, xs[i]? = some x := ⟨_, List.getElem?_eq_getElem (by have := HN.out; omega)⟩
      obtain ⟨g, o, rfl, hc⟩ := H.out.keeps hk i x hx
      have HX := Lib.hid hx
      have hltI : (i : Int) < (n : Int) := by omega
      clear hO hk hx
      go_wp2_with (first
        | (go_at_call 9; with_reducible refine (of_t _ _).mono ?_; rintro e w5 ⟨rfl, rfl⟩)
        | (at_builtin; go_loud (refine app_b elF rfl (.tmp 11) (.tmp 17) rfl w.heap.size (xs.take i) i la lc rfl (HO.out.alloc _) [x] 1 rfl ⟨wr.heap.size, 0, none⟩ 1 rfl (newF wr x) (by unfold maxLen; omega) (by omega) (by omega) ((HK.out.alloc _).size) ?_; intro g' cap' w5 hO5 hG5; have H5 := Lib.hid (And.intro hO5 hG5); clear hO5 hG5)))
      go_roundw
      case rel =>
        refine ⟨i + 1, _, _, by rw [Int.natCast_add]; rfl, by omega, rfl, ?_, ?_⟩
        · rw [take_at HX.out]; exact H5.out.1
        · exact (HK.out.alloc _).grown H5.out.2 (fun k hk e => absurd (HO.out.lt k e).1 (by omega))
      case measure => simp only [intOf]; omega
    · have hltI : ¬ (i : Int) < (n : Int) := by omega
      have hin : i = n := by omega
      subst hin
      clear hO hk hi hlt
      go_wp2_with (at_builtin; go_loud (refine app_b elF rfl (.tmp 19) (.tmp 20) rfl w.heap.size (xs.take i) i la lc rfl (HO.out.alloc _) [4635118810238550016] 1 rfl ⟨wr.heap.size, 0, none⟩ 1 rfl (newF wr _) (by unfold maxLen; omega) (by omega) (by omega) ((HK.out.alloc _).size) ?_; intro g' cap' w5 hO5 hG5; have H5 := Lib.hid (And.intro hO5 hG5); have hcap := own_cap hO5; clear hO5 hG5))
      go_ret
      refine ⟨_, _, rfl, ?_, ?_⟩
      · have e := H5.out.1
        rw [List.take_of_length_le (by have := HN.out; omega)] at e
        simpa using e
      · exact (HK.out.alloc _).grown H5.out.2 (fun k hk e => absurd (HO.out.lt k e).1 (by omega))
end Fl
end Go.Proofs.YtdhelpbhbhihaaaGreatDoor
