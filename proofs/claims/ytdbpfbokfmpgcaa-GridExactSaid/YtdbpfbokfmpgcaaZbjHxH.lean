/-
HxH: the document's line.
-/
import Derived.Test.YtdbpfbokfmpgcaaZbiHxG
import Derived.Test.YtdbpfbokfmpgcaaZbgAppHxDHxE
namespace Go.Proofs.Ytdbpfbokfmpgcaa
open Go.RowKit Go.Shelf
set_option linter.unusedVariables false
set_option linter.unusedSimpArgs false
set_option linter.ambiguousOpen false
attribute [local go_sem] Oper.semAt_some
namespace Gx
open Mem Gr Gs
def clf (c : Cl) : List Value := [.int .i32 c.1, .int .i32 c.2]
theorem clInfo : (Try.prog.info? 65).map (fun i => (i.zero, i.size, i.bytes)) = some (some (.agg #[.int .i32 0, .int .i32 0]), 2, 8) := by kernel_rfl
theorem elC : ElT Try.prog 90 65 clf 2 := by
  obtain ⟨i0, hi0, hz0, hz1, hz2⟩ := info_parts clInfo
  exact ⟨Try.underlying90, ⟨i0, _, hi0, hz0, hz1, by omega, rfl⟩, by decide, fun _ => rfl, fun x u hu => by simp [clf] at hu; rcases hu with rfl | rfl <;> rfl⟩
def colC (x y dx dy s c : Int) : List Cl := (upto (lowR x y dx dy s c) (highR x y dx dy s c)).map fun r => (c, r)
def colsF (x y dx dy s c : Int) : List Cl := (upto c ((x + dx) / s)).flatMap (colC x y dx dy s)
theorem lineR_cols (x y dx dy s : Int) : lineR x y dx dy s = colsF x y dx dy s (x / s) := rfl
theorem colsF_cons {x y dx dy s c : Int} (h : c ≤ (x + dx) / s) : colsF x y dx dy s c = colC x y dx dy s c ++ colsF x y dx dy s (c + 1) := by
  unfold colsF; rw [upto_cons h, List.flatMap_cons]
theorem colsF_nil {x y dx dy s c : Int} (h : (x + dx) / s < c) : colsF x y dx dy s c = [] := by
  unfold colsF; rw [upto_nil h]; rfl
/-- the document's line, as a slice -/
def LineW (w w' : World) (cs : List Cl) (e : Ending) : Prop := ∃ oa oc, e = .returned (.slice oa cs.length oc) ∧ Keeps (fun _ => False) w w' ∧ w'.ownsRow w.heap.size 65 2 (.slice oa cs.length oc) cs.length (cs.flatMap clf)
set_option maxHeartbeats 8000000 in
set_option maxRecDepth 100000 in
theorem first_le (x y X Y s : Int) (hxy : On x y) (hXY : On X Y) (hs : Size s) (hle : x ≤ X) (hlen : (lineL x y X Y s).length ≤ 1024) (w : World) :
    Calls Try.prog 58 #[.agg #[.int .i32 x, .int .i32 y], .agg #[.int .i32 X, .int .i32 Y], .int .i64 s, .int .i64 4611686018427387904] w fun e w' => LineW w w' (lineL x y X Y s) e := by
  have hL : lineL x y X Y s = lineR x y (X - x) (Y - y) s := by unfold lineL; rw [if_neg (by omega)]
  rw [hL] at hlen ⊢
  clear hL
  have hxX : x ≤ X := by omega
  have zf := rfits_t s
  have z1 := rin11_t x y
  have z2 := rin11_t X Y
  simp only [hxy, hXY, hs, decide_true] at zf z1 z2
  have y1 := fun w => down_t X s w (by have := hXY.1; unfold B0 at this; omega) (by have := hXY.2.1; unfold B0 at this; omega) hs.1 (by have := hs.2; omega)
  have y2 := fun w => down_t x s w (by have := hxy.1; unfold B0 at this; omega) (by have := hxy.2.1; unfold B0 at this; omega) hs.1 (by have := hs.2; omega)
  have qa := quot_in hs.1 hxy.1 hxy.2.1
  have qb := quot_in hs.1 hXY.1 hXY.2.1
  have hab := ediv_mono hs.1 hxX
  have u1 : IntKind.i64.wrap x = x := IntWalk.i64_in _ (by have := hxy.1; have := hxy.2.1; unfold B0 at *; omega)
  have u2 : IntKind.i64.wrap X = X := IntWalk.i64_in _ (by have := hXY.1; have := hXY.2.1; unfold B0 at *; omega)
  have hE : (x + (X - x)) / s = X / s := by rw [show x + (X - x) = X by omega]
  obtain ⟨LL, hLL⟩ : ∃ LL, LL = lineR x y (X - x) (Y - y) s := ⟨_, rfl⟩
  rw [← hLL] at hlen ⊢
  have hLA : LL = colsF x y (X - x) (Y - y) s (x / s) := by rw [hLL]; exact lineR_cols _ _ _ _ _
  have HIN := Lib.hid (show ∀ c ∈ LL, -1073741823 ≤ c.1 ∧ c.1 ≤ 1073741823 ∧ -1073741823 ≤ c.2 ∧ c.2 ≤ 1073741823 from fun c hc => by
    rw [hLL] at hc
    have h1 := lineR_in hs.1 (by omega) hc
    rw [show x + (X - x) = X by omega, show y + (Y - y) = Y by omega] at h1
    have m1 := quot_in hs.1 (x := min y Y) (by have := hxy.2.2.1; have := hXY.2.2.1; unfold B0 at *; omega) (by have := hxy.2.2.2; have := hXY.2.2.2; unfold B0 at *; omega)
    have m2 := quot_in hs.1 (x := max y Y) (by have := hxy.2.2.1; have := hXY.2.2.1; unfold B0 at *; omega) (by have := hxy.2.2.2; have := hXY.2.2.2; unfold B0 at *; omega)
    omega)
  have HCOL := Lib.hid (fun c (h1 : x / s ≤ c) (h2 : c ≤ X / s) w => column_t x y X Y s c hxy hXY hs hxX h1 h2 w)
  have bP := (Blk.new w 33 [.int .i32 x, .int .i32 y]).alloc (.cells #[.int .i32 X, .int .i32 Y] 33)
  have bQ := Blk.new (w.alloc (.cells #[.int .i32 x, .int .i32 y] 33)) 33 [.int .i32 X, .int .i32 Y]
  simp only [World.size_alloc] at bQ
  have HPQ := Lib.hid (And.intro bP bQ)
  obtain ⟨A, hA⟩ : ∃ A, A = x / s := ⟨_, rfl⟩
  obtain ⟨B, hB⟩ : ∃ B, B = X / s := ⟨_, rfl⟩
  rw [← hB] at y1 qb hab hE HCOL
  rw [← hA] at y2 qa hab hLA HCOL
  have HY := Lib.hid (And.intro y1 y2)
  have HF := Lib.hid (And.intro hLA (And.intro hlen hE))
  have hg1 : decide (x > X) = false := decide_eq_false (by omega)
  have hg2 : decide (X < x) = false := decide_eq_false (by omega)
  clear hle hxy hXY hs hxX y1 y2 hA hB hLL hLA hlen hE bP bQ
  go_enter Try.func58, Try.ntmps58
  go_wp2_with (first
    | (go_at_call 73; (with_reducible refine (zf _).mono ?_); rintro e w1 ⟨rfl, rfl⟩)
    | (go_at_call 74; (with_reducible refine (z1 _).mono ?_); rintro e w1 ⟨rfl, rfl⟩)
    | (go_at_call 74; (with_reducible refine (z2 _).mono ?_); rintro e w4 ⟨rfl, hw⟩; have HK4 := Lib.hid (show Keeps (fun _ => False) ((w.alloc (.cells #[.int .i32 x, .int .i32 y] 33)).alloc (.cells #[.int .i32 X, .int .i32 Y] 33)) w4 from by rw [← hw]; (repeat (first | exact Keeps.refl _ _ | refine Keeps.alloc ?_ _ | refine Keeps.drew ?_))); have cP4 := (HPQ.out.1.keeps HK4.out (fun h => h)).cell; have cQ4 := (HPQ.out.2.keeps HK4.out (fun h => h)).cell; clear hw)
    | (go_at_call 75; (first | (with_reducible refine (HY.out.1 _).mono ?_) | (with_reducible refine (HY.out.2 _).mono ?_)); rintro e w5 ⟨rfl, rfl⟩))
  clear u1 u2 hg1 hg2 zf z1 z2 cP4 cQ4
  go_loopw [9, 11, 12, 13, 14] (fun v q _ _ _ wr => ∃ (cs : List Cl) (la : Option Addr) (lc : Nat) (c : Int), v = .slice la cs.length lc ∧ q = .int .i64 c ∧ A ≤ c ∧ c ≤ B + 1 ∧ cs ++ colsF x y (X - x) (Y - y) s c = LL ∧ wr.ownsRow w4.heap.size 65 2 (.slice la cs.length lc) cs.length (cs.flatMap clf) ∧ Keeps (fun k => k = w.heap.size ∨ k = w.heap.size + 1) w4 wr ∧ Blk wr w.heap.size 33 [.int .i32 x, .int .i32 y] ∧ Blk wr (w.heap.size + 1) 33 [.int .i32 X, .int .i32 Y]) (fun _ q _ _ _ _ => (B + 1 - intOf q).toNat)
  case atStart => exact ⟨[], none, 0, A, rfl, rfl, Int.le_refl _, by omega, by rw [HF.out.1]; rfl, World.ownsRow_nil _ _ _ _, Keeps.refl _ _, HPQ.out.1.keeps HK4.out (fun h => h), HPQ.out.2.keeps HK4.out (fun h => h)⟩
  case round =>
    obtain ⟨cs, la, lc, c, rfl, rfl, hA, hB, hcs, hO, hK, hbp, hbq⟩ := hrel
    obtain ⟨n, hn⟩ : ∃ n : Nat, n = cs.length := ⟨_, rfl⟩
    rw [← hn] at hO ⊢
    have HO := Lib.hid (And.intro hO (And.intro hK (And.intro hbp (And.intro hbq (And.intro hn hcs)))))
    have cP := hbp.cell
    have cQ := hbq.cell
    clear hO hK hbp hbq hn hcs
    have w1 : IntKind.i64.wrap (c + 1) = c + 1 := IntWalk.i64_in _ (by omega)
    by_cases hlt : c ≤ B
    · have zc := HCOL.out c hA hlt
      obtain ⟨lo, hlo⟩ : ∃ lo, lo = lowR x y (X - x) (Y - y) s c := ⟨_, rfl⟩
      obtain ⟨hi, hhi⟩ : ∃ hi, hi = highR x y (X - x) (Y - y) s c := ⟨_, rfl⟩
      rw [← hlo, ← hhi] at zc
      have HZ := Lib.hid zc
      have hcol : LL = cs ++ ((upto lo hi).map fun r => ((c, r) : Cl)) ++ colsF x y (X - x) (Y - y) s (c + 1) := by
        rw [← HO.out.2.2.2.2.2, colsF_cons (by rw [HF.out.2.2]; exact hlt), hlo, hhi, List.append_assoc]; rfl
      have HC := Lib.hid hcol
      have w2 : IntKind.i32.wrap c = c := IntWalk.i32_in _ (by omega)
      clear zc hlo hhi hcol
      go_wp2_with (go_at_call 76; (with_reducible refine (HZ.out _).mono ?_); rintro e w6 ⟨rfl, hk6⟩; have HK6 := Lib.hid hk6; have cP6 := (HO.out.2.2.1.keeps hk6 (fun h => h)).cell; have cQ6 := (HO.out.2.2.2.1.keeps hk6 (fun h => h)).cell; clear hk6)
      clear cP cQ cP6 cQ6
      go_loopw [9, 14] (fun v q wr2 => ∃ (cs2 : List Cl) (la2 : Option Addr) (lc2 : Nat) (r : Int), v = .slice la2 cs2.length lc2 ∧ q = .int .i64 r ∧ lo ≤ r ∧ (r ≤ hi + 1 ∨ r = lo) ∧ cs2 ++ ((upto r hi).map fun r => ((c, r) : Cl)) = cs ++ ((upto lo hi).map fun r => ((c, r) : Cl)) ∧ wr2.ownsRow w4.heap.size 65 2 (.slice la2 cs2.length lc2) cs2.length (cs2.flatMap clf) ∧ Keeps (fun k => k = w.heap.size ∨ k = w.heap.size + 1) w4 wr2 ∧ Blk wr2 w.heap.size 33 [.int .i32 x, .int .i32 y] ∧ Blk wr2 (w.heap.size + 1) 33 [.int .i32 X, .int .i32 Y]) (fun _ q _ => (hi + 1 - intOf q).toNat)
      case atStart => exact ⟨cs, la, lc, lo, by rw [← HO.out.2.2.2.2.1], rfl, Int.le_refl _, .inr rfl, rfl, own_n (owns_keeps HO.out.1 HK6.out (fun _ _ h => h)) HO.out.2.2.2.2.1, HO.out.2.1.then HK6.out (fun _ _ h => h.elim), HO.out.2.2.1.keeps HK6.out (fun h => h), HO.out.2.2.2.1.keeps HK6.out (fun h => h)⟩
      case round =>
        obtain ⟨cs2, la2, lc2, r, rfl, rfl, hr1, hr2, hcs2, hO2, hK2, hbp2, hbq2⟩ := hrel
        obtain ⟨m, hm⟩ : ∃ m : Nat, m = cs2.length := ⟨_, rfl⟩
        rw [← hm] at hO2 ⊢
        have hlen2 : cs2.length ≤ 1024 := by
          have h1 := HF.out.2.1
          rw [HC.out, ← hcs2] at h1
          simp only [List.length_append] at h1
          omega
        have hmI : (m : Int) ≤ 1024 := by omega
        have HO2 := Lib.hid (And.intro hO2 (And.intro hK2 (And.intro hbp2 (And.intro hbq2 (And.intro hm hcs2)))))
        clear hO2 hK2 hbp2 hbq2 hm hcs2
        by_cases hr : r ≤ hi
        · have hin : (c, r) ∈ LL := by
            rw [HC.out, ← HO2.out.2.2.2.2.2, upto_cons hr]; simp
          have hb := HIN.out _ hin
          simp only at hb
          have w3 : IntKind.i32.wrap r = r := IntWalk.i32_in _ (by omega)
          have w5 : IntKind.i64.wrap (r + 1) = r + 1 := IntWalk.i64_in _ (by omega)
          have hg : decide ((m : Int) ≥ 4611686018427387904) = false := decide_eq_false (by omega)
          have HL := Lib.hid (show m ≤ 1000000000 by omega)
          have HR := Lib.hid hr
          clear hin hb hlen2
          go_wp2_with (at_builtin; refine app_f elC rfl (.tmp 69) (.tmp 75) rfl w4.heap.size cs2 _ la2 lc2 rfl (HO2.out.1.alloc _) (c, r) wr.heap.size rfl (by exact Mem.news_new wr _ [_, _]) HL.out ((Keeps.alloc HO2.out.2.1 _).size) ?_; intro g' cap' w7 hown hgrow; have HG := Lib.hid (And.intro hown hgrow); clear hown hgrow)
          go_roundw
          case rel =>
            have e2 := HO2.out.2.2.2.2.1
            have gb : ∀ (k : Nat), k < wr.heap.size → (Value.slice la2 m lc2).ownBlock = some k → w4.heap.size ≤ k := fun k _ e => (HO2.out.1.lt k e).1
            have kg := (Keeps.refl (fun k => (Value.slice la2 m lc2).ownBlock = some k) wr).alloc (.cells #[.int .i32 c, .int .i32 r] 65) |>.grown HG.out.2 (fun k _ e => e)
            have z4 := HO2.out.2.1.size
            have zb := HO2.out.2.2.2.1.lt
            have hz4 := HK4.out.size
            simp only [World.size_alloc] at hz4
            refine ⟨cs2 ++ [(c, r)], some ⟨g', 0, none⟩, cap', r + 1, by rw [e2]; simp, rfl, by omega, .inl (by omega), ?_, own_n HG.out.1 (by rw [e2]; simp), ?_, HO2.out.2.2.1.keeps kg (fun e => by have := (HO2.out.1.lt _ e).1; omega), HO2.out.2.2.2.1.keeps kg (fun e => by have := (HO2.out.1.lt _ e).1; omega)⟩
            · rw [← HO2.out.2.2.2.2.2, upto_cons HR.out, List.append_assoc]; rfl
            · exact HO2.out.2.1.then kg (fun k hk e => absurd (HO2.out.1.lt k e).1 (by omega))
          case measure => simp only [intOf]; omega
        · have hr' : ¬ r ≤ hi := hr
          have HR := Lib.hid hr
          clear hr hlen2
          go_wp2
          go_roundw
          case rel =>
            have e2 := HO2.out.2.2.2.2.1
            refine ⟨cs2, la2, lc2, c + 1, by rw [e2], rfl, by omega, by omega, ?_, own_n HO2.out.1 e2, HO2.out.2.1, HO2.out.2.2.1, HO2.out.2.2.2.1⟩
            have h1 := HO2.out.2.2.2.2.2
            rw [upto_nil (show hi < r by have := HR.out; omega), List.map_nil, List.append_nil] at h1
            rw [h1]; exact HC.out.symm
          case measure => simp only [intOf]; omega
    · have HE := Lib.hid (show cs = LL by have h1 := HO.out.2.2.2.2.2; rw [colsF_nil (by rw [HF.out.2.2]; omega), List.append_nil] at h1; exact h1)
      go_wp2
      go_ret
      have e1 := HE.out
      have e2 := HO.out.2.2.2.2.1
      have hz4 := HK4.out.size
      simp only [World.size_alloc] at hz4
      subst e2
      rw [← e1]
      refine ⟨la, lc, rfl, ?_, owns_base HO.out.1 (by omega)⟩
      have k4 : Keeps (fun _ => False) w w4 := Keeps.trans (by (repeat (first | exact Keeps.refl _ _ | refine Keeps.alloc ?_ _ | refine Keeps.drew ?_))) HK4.out
      exact k4.then HO.out.2.1 (fun k hk e => by rcases e with e | e <;> omega)

set_option maxHeartbeats 8000000 in
set_option maxRecDepth 100000 in
theorem first_gt (x y X Y s : Int) (hxy : On x y) (hXY : On X Y) (hs : Size s) (hle : x < X) (hlen : (lineL X Y x y s).length ≤ 1024) (w : World) :
    Calls Try.prog 58 #[.agg #[.int .i32 X, .int .i32 Y], .agg #[.int .i32 x, .int .i32 y], .int .i64 s, .int .i64 4611686018427387904] w fun e w' => LineW w w' (lineL X Y x y s) e := by
  have hL : lineL X Y x y s = lineR x y (X - x) (Y - y) s := by unfold lineL; rw [if_pos (by omega)]
  rw [hL] at hlen ⊢
  clear hL
  have hxX : x ≤ X := by omega
  have zf := rfits_t s
  have z1 := rin11_t X Y
  have z2 := rin11_t x y
  simp only [hxy, hXY, hs, decide_true] at zf z1 z2
  have y1 := fun w => down_t X s w (by have := hXY.1; unfold B0 at this; omega) (by have := hXY.2.1; unfold B0 at this; omega) hs.1 (by have := hs.2; omega)
  have y2 := fun w => down_t x s w (by have := hxy.1; unfold B0 at this; omega) (by have := hxy.2.1; unfold B0 at this; omega) hs.1 (by have := hs.2; omega)
  have qa := quot_in hs.1 hxy.1 hxy.2.1
  have qb := quot_in hs.1 hXY.1 hXY.2.1
  have hab := ediv_mono hs.1 hxX
  have u1 : IntKind.i64.wrap x = x := IntWalk.i64_in _ (by have := hxy.1; have := hxy.2.1; unfold B0 at *; omega)
  have u2 : IntKind.i64.wrap X = X := IntWalk.i64_in _ (by have := hXY.1; have := hXY.2.1; unfold B0 at *; omega)
  have hE : (x + (X - x)) / s = X / s := by rw [show x + (X - x) = X by omega]
  obtain ⟨LL, hLL⟩ : ∃ LL, LL = lineR x y (X - x) (Y - y) s := ⟨_, rfl⟩
  rw [← hLL] at hlen ⊢
  have hLA : LL = colsF x y (X - x) (Y - y) s (x / s) := by rw [hLL]; exact lineR_cols _ _ _ _ _
  have HIN := Lib.hid (show ∀ c ∈ LL, -1073741823 ≤ c.1 ∧ c.1 ≤ 1073741823 ∧ -1073741823 ≤ c.2 ∧ c.2 ≤ 1073741823 from fun c hc => by
    rw [hLL] at hc
    have h1 := lineR_in hs.1 (by omega) hc
    rw [show x + (X - x) = X by omega, show y + (Y - y) = Y by omega] at h1
    have m1 := quot_in hs.1 (x := min y Y) (by have := hxy.2.2.1; have := hXY.2.2.1; unfold B0 at *; omega) (by have := hxy.2.2.2; have := hXY.2.2.2; unfold B0 at *; omega)
    have m2 := quot_in hs.1 (x := max y Y) (by have := hxy.2.2.1; have := hXY.2.2.1; unfold B0 at *; omega) (by have := hxy.2.2.2; have := hXY.2.2.2; unfold B0 at *; omega)
    omega)
  have HCOL := Lib.hid (fun c (h1 : x / s ≤ c) (h2 : c ≤ X / s) w => column_t x y X Y s c hxy hXY hs hxX h1 h2 w)
  have bP := (Blk.new w 33 [.int .i32 X, .int .i32 Y]).alloc (.cells #[.int .i32 x, .int .i32 y] 33)
  have bQ := Blk.new (w.alloc (.cells #[.int .i32 X, .int .i32 Y] 33)) 33 [.int .i32 x, .int .i32 y]
  simp only [World.size_alloc] at bQ
  have HPQ := Lib.hid (And.intro bP bQ)
  obtain ⟨A, hA⟩ : ∃ A, A = x / s := ⟨_, rfl⟩
  obtain ⟨B, hB⟩ : ∃ B, B = X / s := ⟨_, rfl⟩
  rw [← hB] at y1 qb hab hE HCOL
  rw [← hA] at y2 qa hab hLA HCOL
  have HY := Lib.hid (And.intro y1 y2)
  have HF := Lib.hid (And.intro hLA (And.intro hlen hE))
  have hg1 : decide (X > x) = true := decide_eq_true hle
  have hg2 : decide (x < X) = true := decide_eq_true hle
  clear hle hxy hXY hs hxX y1 y2 hA hB hLL hLA hlen hE bP bQ
  go_enter Try.func58, Try.ntmps58
  go_wp2_with (first
    | (go_at_call 73; (with_reducible refine (zf _).mono ?_); rintro e w1 ⟨rfl, rfl⟩)
    | (go_at_call 74; (with_reducible refine (z1 _).mono ?_); rintro e w1 ⟨rfl, rfl⟩)
    | (go_at_call 74; (with_reducible refine (z2 _).mono ?_); rintro e w4 ⟨rfl, hw⟩; have HK4 := Lib.hid (show Keeps (fun _ => False) ((w.alloc (.cells #[.int .i32 X, .int .i32 Y] 33)).alloc (.cells #[.int .i32 x, .int .i32 y] 33)) w4 from by rw [← hw]; (repeat (first | exact Keeps.refl _ _ | refine Keeps.alloc ?_ _ | refine Keeps.drew ?_))); have cP4 := (HPQ.out.1.keeps HK4.out (fun h => h)).cell; have cQ4 := (HPQ.out.2.keeps HK4.out (fun h => h)).cell; have fP := (HPQ.out.1.keeps HK4.out (fun h => h)).frozen; have fQ := (HPQ.out.2.keeps HK4.out (fun h => h)).frozen; clear hw)
    | (go_at_call 75; (first | (with_reducible refine (HY.out.1 _).mono ?_) | (with_reducible refine (HY.out.2 _).mono ?_)); rintro e w5 ⟨rfl, rfl⟩))
  clear u1 u2 hg1 hg2 zf z1 z2 cP4 cQ4 fP fQ
  go_loopw [9, 11, 12, 13, 14] (fun v q _ _ _ wr => ∃ (cs : List Cl) (la : Option Addr) (lc : Nat) (c : Int), v = .slice la cs.length lc ∧ q = .int .i64 c ∧ A ≤ c ∧ c ≤ B + 1 ∧ cs ++ colsF x y (X - x) (Y - y) s c = LL ∧ wr.ownsRow w4.heap.size 65 2 (.slice la cs.length lc) cs.length (cs.flatMap clf) ∧ Keeps (fun k => k = w.heap.size ∨ k = w.heap.size + 1) w4 wr ∧ Blk wr w.heap.size 33 [.int .i32 x, .int .i32 y] ∧ Blk wr (w.heap.size + 1) 33 [.int .i32 X, .int .i32 Y]) (fun _ q _ _ _ _ => (B + 1 - intOf q).toNat)
  case atStart => exact ⟨[], none, 0, A, rfl, rfl, Int.le_refl _, by omega, by rw [HF.out.1]; rfl, World.ownsRow_nil _ _ _ _, ((((Keeps.refl _ w4).setCell (p := ⟨w.heap.size, 0, none⟩) (fun _ => .inl rfl) _).setCell (p := ⟨w.heap.size, 1, none⟩) (fun _ => .inl rfl) _).setCell (p := ⟨w.heap.size + 1, 0, none⟩) (fun _ => .inr rfl) _).setCell (p := ⟨w.heap.size + 1, 1, none⟩) (fun _ => .inr rfl) _, by simpa using (((((HPQ.out.1.keeps HK4.out (fun h => h)).set_ 0 (.int .i32 x)).set_ 1 (.int .i32 y)).far (p := ⟨w.heap.size + 1, 0, none⟩) (by simp) (.int .i32 X)).far (p := ⟨w.heap.size + 1, 1, none⟩) (by simp) (.int .i32 Y)), by simpa using (((((HPQ.out.2.keeps HK4.out (fun h => h)).far (p := ⟨w.heap.size, 0, none⟩) (by simp) (.int .i32 x)).far (p := ⟨w.heap.size, 1, none⟩) (by simp) (.int .i32 y)).set_ 0 (.int .i32 X)).set_ 1 (.int .i32 Y))⟩
  case round =>
    obtain ⟨cs, la, lc, c, rfl, rfl, hA, hB, hcs, hO, hK, hbp, hbq⟩ := hrel
    obtain ⟨n, hn⟩ : ∃ n : Nat, n = cs.length := ⟨_, rfl⟩
    rw [← hn] at hO ⊢
    have HO := Lib.hid (And.intro hO (And.intro hK (And.intro hbp (And.intro hbq (And.intro hn hcs)))))
    have cP := hbp.cell
    have cQ := hbq.cell
    clear hO hK hbp hbq hn hcs
    have w1 : IntKind.i64.wrap (c + 1) = c + 1 := IntWalk.i64_in _ (by omega)
    by_cases hlt : c ≤ B
    · have zc := HCOL.out c hA hlt
      obtain ⟨lo, hlo⟩ : ∃ lo, lo = lowR x y (X - x) (Y - y) s c := ⟨_, rfl⟩
      obtain ⟨hi, hhi⟩ : ∃ hi, hi = highR x y (X - x) (Y - y) s c := ⟨_, rfl⟩
      rw [← hlo, ← hhi] at zc
      have HZ := Lib.hid zc
      have hcol : LL = cs ++ ((upto lo hi).map fun r => ((c, r) : Cl)) ++ colsF x y (X - x) (Y - y) s (c + 1) := by
        rw [← HO.out.2.2.2.2.2, colsF_cons (by rw [HF.out.2.2]; exact hlt), hlo, hhi, List.append_assoc]; rfl
      have HC := Lib.hid hcol
      have w2 : IntKind.i32.wrap c = c := IntWalk.i32_in _ (by omega)
      clear zc hlo hhi hcol
      go_wp2_with (go_at_call 76; (with_reducible refine (HZ.out _).mono ?_); rintro e w6 ⟨rfl, hk6⟩; have HK6 := Lib.hid hk6; have cP6 := (HO.out.2.2.1.keeps hk6 (fun h => h)).cell; have cQ6 := (HO.out.2.2.2.1.keeps hk6 (fun h => h)).cell; clear hk6)
      clear cP cQ cP6 cQ6
      go_loopw [9, 14] (fun v q wr2 => ∃ (cs2 : List Cl) (la2 : Option Addr) (lc2 : Nat) (r : Int), v = .slice la2 cs2.length lc2 ∧ q = .int .i64 r ∧ lo ≤ r ∧ (r ≤ hi + 1 ∨ r = lo) ∧ cs2 ++ ((upto r hi).map fun r => ((c, r) : Cl)) = cs ++ ((upto lo hi).map fun r => ((c, r) : Cl)) ∧ wr2.ownsRow w4.heap.size 65 2 (.slice la2 cs2.length lc2) cs2.length (cs2.flatMap clf) ∧ Keeps (fun k => k = w.heap.size ∨ k = w.heap.size + 1) w4 wr2 ∧ Blk wr2 w.heap.size 33 [.int .i32 x, .int .i32 y] ∧ Blk wr2 (w.heap.size + 1) 33 [.int .i32 X, .int .i32 Y]) (fun _ q _ => (hi + 1 - intOf q).toNat)
      case atStart => exact ⟨cs, la, lc, lo, by rw [← HO.out.2.2.2.2.1], rfl, Int.le_refl _, .inr rfl, rfl, own_n (owns_keeps HO.out.1 HK6.out (fun _ _ h => h)) HO.out.2.2.2.2.1, HO.out.2.1.then HK6.out (fun _ _ h => h.elim), HO.out.2.2.1.keeps HK6.out (fun h => h), HO.out.2.2.2.1.keeps HK6.out (fun h => h)⟩
      case round =>
        obtain ⟨cs2, la2, lc2, r, rfl, rfl, hr1, hr2, hcs2, hO2, hK2, hbp2, hbq2⟩ := hrel
        obtain ⟨m, hm⟩ : ∃ m : Nat, m = cs2.length := ⟨_, rfl⟩
        rw [← hm] at hO2 ⊢
        have hlen2 : cs2.length ≤ 1024 := by
          have h1 := HF.out.2.1
          rw [HC.out, ← hcs2] at h1
          simp only [List.length_append] at h1
          omega
        have hmI : (m : Int) ≤ 1024 := by omega
        have HO2 := Lib.hid (And.intro hO2 (And.intro hK2 (And.intro hbp2 (And.intro hbq2 (And.intro hm hcs2)))))
        clear hO2 hK2 hbp2 hbq2 hm hcs2
        by_cases hr : r ≤ hi
        · have hin : (c, r) ∈ LL := by
            rw [HC.out, ← HO2.out.2.2.2.2.2, upto_cons hr]; simp
          have hb := HIN.out _ hin
          simp only at hb
          have w3 : IntKind.i32.wrap r = r := IntWalk.i32_in _ (by omega)
          have w5 : IntKind.i64.wrap (r + 1) = r + 1 := IntWalk.i64_in _ (by omega)
          have hg : decide ((m : Int) ≥ 4611686018427387904) = false := decide_eq_false (by omega)
          have HL := Lib.hid (show m ≤ 1000000000 by omega)
          have HR := Lib.hid hr
          clear hin hb hlen2
          go_wp2_with (at_builtin; refine app_f elC rfl (.tmp 69) (.tmp 75) rfl w4.heap.size cs2 _ la2 lc2 rfl (HO2.out.1.alloc _) (c, r) wr.heap.size rfl (by exact Mem.news_new wr _ [_, _]) HL.out ((Keeps.alloc HO2.out.2.1 _).size) ?_; intro g' cap' w7 hown hgrow; have HG := Lib.hid (And.intro hown hgrow); clear hown hgrow)
          go_roundw
          case rel =>
            have e2 := HO2.out.2.2.2.2.1
            have gb : ∀ (k : Nat), k < wr.heap.size → (Value.slice la2 m lc2).ownBlock = some k → w4.heap.size ≤ k := fun k _ e => (HO2.out.1.lt k e).1
            have kg := (Keeps.refl (fun k => (Value.slice la2 m lc2).ownBlock = some k) wr).alloc (.cells #[.int .i32 c, .int .i32 r] 65) |>.grown HG.out.2 (fun k _ e => e)
            have z4 := HO2.out.2.1.size
            have zb := HO2.out.2.2.2.1.lt
            have hz4 := HK4.out.size
            simp only [World.size_alloc] at hz4
            refine ⟨cs2 ++ [(c, r)], some ⟨g', 0, none⟩, cap', r + 1, by rw [e2]; simp, rfl, by omega, .inl (by omega), ?_, own_n HG.out.1 (by rw [e2]; simp), ?_, HO2.out.2.2.1.keeps kg (fun e => by have := (HO2.out.1.lt _ e).1; omega), HO2.out.2.2.2.1.keeps kg (fun e => by have := (HO2.out.1.lt _ e).1; omega)⟩
            · rw [← HO2.out.2.2.2.2.2, upto_cons HR.out, List.append_assoc]; rfl
            · exact HO2.out.2.1.then kg (fun k hk e => absurd (HO2.out.1.lt k e).1 (by omega))
          case measure => simp only [intOf]; omega
        · have hr' : ¬ r ≤ hi := hr
          have HR := Lib.hid hr
          clear hr hlen2
          go_wp2
          go_roundw
          case rel =>
            have e2 := HO2.out.2.2.2.2.1
            refine ⟨cs2, la2, lc2, c + 1, by rw [e2], rfl, by omega, by omega, ?_, own_n HO2.out.1 e2, HO2.out.2.1, HO2.out.2.2.1, HO2.out.2.2.2.1⟩
            have h1 := HO2.out.2.2.2.2.2
            rw [upto_nil (show hi < r by have := HR.out; omega), List.map_nil, List.append_nil] at h1
            rw [h1]; exact HC.out.symm
          case measure => simp only [intOf]; omega
    · have HE := Lib.hid (show cs = LL by have h1 := HO.out.2.2.2.2.2; rw [colsF_nil (by rw [HF.out.2.2]; omega), List.append_nil] at h1; exact h1)
      go_wp2
      go_ret
      have e1 := HE.out
      have e2 := HO.out.2.2.2.2.1
      have hz4 := HK4.out.size
      simp only [World.size_alloc] at hz4
      subst e2
      rw [← e1]
      refine ⟨la, lc, rfl, ?_, owns_base HO.out.1 (by omega)⟩
      have k4 : Keeps (fun _ => False) w w4 := Keeps.trans (by (repeat (first | exact Keeps.refl _ _ | refine Keeps.alloc ?_ _ | refine Keeps.drew ?_))) HK4.out
      exact k4.then HO.out.2.1 (fun k hk e => by rcases e with e | e <;> omega)

theorem first_t (px py qx qy s : Int) (hp : On px py) (hq : On qx qy) (hs : Size s) (hlen : (lineL px py qx qy s).length ≤ 1024) (w : World) :
    Calls Try.prog 58 #[.agg #[.int .i32 px, .int .i32 py], .agg #[.int .i32 qx, .int .i32 qy], .int .i64 s, .int .i64 4611686018427387904] w fun e w' => LineW w w' (lineL px py qx qy s) e := by
  by_cases h : px ≤ qx
  · exact first_le px py qx qy s hp hq hs h hlen w
  · exact first_gt qx qy px py s hq hp hs (by omega) hlen w
theorem LineW.back {w w1 w' : World} {cs : List Cl} {e : Ending} (h : LineW w1 w' cs e) (hk : Keeps (fun _ => False) w w1) : LineW w w' cs e := by
  obtain ⟨oa, oc, h1, h2, h3⟩ := h
  exact ⟨oa, oc, h1, hk.trans h2, owns_base h3 hk.size⟩
theorem line_r (px py qx qy s : Int) (hp : On px py) (hq : On qx qy) (hs : Size s) (hlen : (lineL px py qx qy s).length ≤ 1024) (w : World) :
    Calls Try.prog 48 #[.agg #[.int .i32 px, .int .i32 py], .agg #[.int .i32 qx, .int .i32 qy], .int .i64 s] w fun e w' => LineW w w' (lineL px py qx qy s) e := by
  have HZ := Lib.hid (first_t px py qx qy s hp hq hs hlen)
  clear hp hq hs hlen
  go_enter Try.func48, Try.ntmps48
  go_wp2_with (go_at_call 58; (with_reducible refine (HZ.out _).mono ?_); rintro e w4 hL; obtain ⟨oa, oc, rfl, hL2⟩ := hL; have HL := Lib.hid hL2; clear hL2)
  go_ret
  exact LineW.back ⟨oa, oc, rfl, HL.out⟩ (by (repeat (first | exact Keeps.refl _ _ | refine Keeps.alloc ?_ _ | refine Keeps.drew ?_)))
end Gx
end Go.Proofs.Ytdbpfbokfmpgcaa
