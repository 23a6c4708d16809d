/-
FpD: whole numbers of any length: times.
FpE: fractions in memory: whole, Sign, mul, Cmp.
-/
import Derived.Test.YtdbpfbokfmpgcaaGreatZbjFpBFpC
set_option linter.unusedVariables false
set_option linter.unusedSimpArgs false
set_option linter.ambiguousOpen false
set_option maxHeartbeats 16000000
set_option maxRecDepth 100000
attribute [local go_sem] Go.Oper.semAt_some
namespace Go.Proofs.YtdbpfbokfmpgcaaGreat
theorem Z2 {p : Prop} (h : p := by (repeat (first | with_reducible exact Keeps.refl _ _ | refine Keeps.drew ?_ | refine Keeps.alloc ?_ _ | with_reducible refine Keeps.trans ?_ HK5.out | with_reducible refine Keeps.trans ?_ HK6.out | with_reducible refine Keeps.trans ?_ HK7.out | with_reducible refine Keeps.trans ?_ HK8.out | with_reducible refine Keeps.trans ?_ HK9.out | refine Keeps.setCell ?_ (by simp) _))) : p := h
theorem ZA8 {p : Prop} (h : p := by exact Keeps.trans (((Keeps.refl (fun _ => False) w).alloc _).alloc _) Z2) : p := h
open Go.RowKit
namespace Bg
open Mem
theorem wv_set : ∀ {o : List Nat} {j y : Nat} (v : Nat), o[j]? = some y → wv (o.set j v) + 4294967296 ^ j * y = wv o + 4294967296 ^ j * v
 | [], j, y, v, h => by simp at h
 | x :: o, 0, y, v, h => by simp at h; subst h; simp [wv]; omega
 | x :: o, j + 1, y, v, h => by
  have := wv_set (o := o) (j := j) v (by simpa using h)
  rw [List.set_cons_succ, wv, wv, Nat.pow_succ]
  have e1 : 4294967296 ^ j * 4294967296 * y = 4294967296 * (4294967296 ^ j * y) := by rw [Nat.mul_comm (4294967296 ^ j) 4294967296, Nat.mul_assoc]
  have e2 : 4294967296 ^ j * 4294967296 * v = 4294967296 * (4294967296 ^ j * v) := by rw [Nat.mul_comm (4294967296 ^ j) 4294967296, Nat.mul_assoc]
  rw [e1, e2]
  omega
theorem times_in {o l2 : List Nat} {i k x y b c c' v A : Nat} (h : wv o + 4294967296 ^ (i + k) * c = A + 4294967296 ^ i * (x * wv (l2.take k))) (hb : wv (l2.take (k + 1)) = wv (l2.take k) + 4294967296 ^ k * b) (ho : o[i + k]? = some y) (hv : v + 4294967296 * c' = x * b + y + c) :
 wv (o.set (i + k) v) + 4294967296 ^ (i + (k + 1)) * c' = A + 4294967296 ^ i * (x * wv (l2.take (k + 1))) := by
 have h1 := wv_set v ho
 have e : 4294967296 ^ (i + (k + 1)) * c' = 4294967296 ^ (i + k) * (4294967296 * c') := by rw [← Nat.add_assoc, Nat.pow_succ, Nat.mul_assoc]
 have e2 : 4294967296 ^ i * (x * (4294967296 ^ k * b)) = 4294967296 ^ (i + k) * (x * b) := by
  rw [Nat.pow_add, Nat.mul_left_comm x, Nat.mul_assoc]
 rw [hb, e, Nat.mul_add x, Nat.mul_add (4294967296 ^ i), e2]
 have h2 : 4294967296 ^ (i + k) * v + 4294967296 ^ (i + k) * (4294967296 * c') = 4294967296 ^ (i + k) * (x * b) + 4294967296 ^ (i + k) * y + 4294967296 ^ (i + k) * c := by
  rw [← Nat.mul_add, hv, Nat.mul_add, Nat.mul_add]
 generalize 4294967296 ^ (i + k) * (4294967296 * c') = X1 at *
 generalize 4294967296 ^ (i + k) * (x * b) = X2 at *
 generalize 4294967296 ^ (i + k) * y = X3 at *
 generalize 4294967296 ^ (i + k) * c = X4 at *
 generalize 4294967296 ^ (i + k) * v = X5 at *
 generalize 4294967296 ^ i * (x * wv (l2.take k)) = X6 at *
 omega
theorem times_out {o l1 l2 : List Nat} {i n2 x c : Nat} (hlen : o.length = i + n2) (hn2 : n2 = l2.length) (hx : wv (l1.take (i + 1)) = wv (l1.take i) + 4294967296 ^ i * x) (h : wv o + 4294967296 ^ (i + n2) * c = wv (l1.take i) * wv l2 + 4294967296 ^ i * (x * wv (l2.take n2))) :
 wv (o ++ [c]) = wv (l1.take (i + 1)) * wv l2 := by
 rw [wv_snoc, hlen, h, hx, hn2, List.take_length, Nat.add_mul, Nat.mul_assoc]
theorem word_prod {x b y c : Nat} (hx : x < 4294967296) (hb : b < 4294967296) (hy : y < 4294967296) (hc : c < 4294967296) : x * b + y + c < 18446744073709551616 := by
 have := Nat.mul_le_mul (show x ≤ 4294967295 by omega) (show b ≤ 4294967295 by omega)
 omega
theorem set_row {w wr : World} {g N m j : Nat} {o : List Nat} (hk : Keeps (fun _ => False) w wr) (hg : w.heap.size ≤ g) (hb : Blk wr g 35 (ws o ++ List.replicate (N - m) z32)) (hj : j < o.length) (v : Nat) :
 Keeps (fun _ => False) w (wr.setCell ⟨g, j, none⟩ (.int .u32 (v : Int))) ∧ Blk (wr.setCell ⟨g, j, none⟩ (.int .u32 (v : Int))) g 35 (ws (o.set j v) ++ List.replicate (N - m) z32) := by
 refine ⟨hk.setCell (p := ⟨g, j, none⟩) (fun h => ZAT) _, ?_⟩
 have := hb.set_ j (.int .u32 (v : Int))
 rw [List.set_append_left _ _ (by rw [ws_len]; exact hj)] at this
 have e : (ws o).set j (.int .u32 (v : Int)) = ws (o.set j v) := by unfold ws; rw [List.map_set]
 rw [e] at this
 exact this
theorem row_at {o : List Nat} {k j y : Nat} (h : o[j]? = some y) : (ws o ++ List.replicate k z32)[j]? = some (.int .u32 (y : Int)) := by
 have hj : j < o.length := (List.getElem?_eq_some_iff.1 h).1
 rw [List.getElem?_append_left (by rw [ws_len]; exact hj)]
 simp [ws, h]
theorem ws_zero (n : Nat) : ws (List.replicate n 0) = List.replicate n z32 := by simp [ws, z32]
theorem wv_zero : ∀ n : Nat, wv (List.replicate n 0) = 0
 | 0 => rfl
 | n + 1 => by rw [List.replicate_succ, wv, wv_zero n]
theorem row4 {w : World} {m1 m2 : Bool} {a1 a2 : Option Addr} {n1 c1 n2 c2 N : Nat} : Blk ((((w.alloc (.cells #[.bool m1, .slice a1 n1 c1] 101)).alloc (.cells #[.bool m2, .slice a2 n2 c2] 101)).alloc (.cells #[.bool false, .slice none 0 0] 101)).alloc (.cells (List.replicate N z32).toArray 35)) (w.heap.size + 3) 35 (List.replicate N z32) ∧ Keeps (fun _ => False) (((w.alloc (.cells #[.bool m1, .slice a1 n1 c1] 101)).alloc (.cells #[.bool m2, .slice a2 n2 c2] 101)).alloc (.cells #[.bool false, .slice none 0 0] 101)) ((((w.alloc (.cells #[.bool m1, .slice a1 n1 c1] 101)).alloc (.cells #[.bool m2, .slice a2 n2 c2] 101)).alloc (.cells #[.bool false, .slice none 0 0] 101)).alloc (.cells (List.replicate N z32).toArray 35)) := by
 have h2 := Blk.new (((w.alloc (.cells #[.bool m1, .slice a1 n1 c1] 101)).alloc (.cells #[.bool m2, .slice a2 n2 c2] 101)).alloc (.cells #[.bool false, .slice none 0 0] 101)) 35 (List.replicate N z32)
 exact ⟨by simpa only [World.size_alloc] using h2, (Keeps.refl _ _).alloc _⟩
theorem times_one (m1 m2 : Bool) (a1 a2 : Option Addr) (n1 n2 c1 c2 N : Nat) (l1 l2 : List Nat) (x y : Int) (w : World) (r1 : Wr w a1 c1 l1) (e1 : n1 = l1.length) (h1 : Who m1 l1 x) (r2 : Wr w a2 c2 l2) (e2 : n2 = l2.length) (h2 : Who m2 l2 y) (hn1 : (n1 : Int) ≤ 100000) (hn2 : (n2 : Int) ≤ 100000) (hN : N = n1 + n2) :
 Calls Tryz.prog 43 #[.agg #[.bool m1, .slice a1 n1 c1], .agg #[.bool m2, .slice a2 n2 c2]] w (GaveW (x * y) N w) := by
 have hxy : x * y = if (!(m1 == m2)) = true then -((wv l1 * wv l2 : Nat) : Int) else ((wv l1 * wv l2 : Nat) : Int) := by
  have q1 := h1.sgn; have q2 := h2.sgn; have q3 := h1.abs; have q4 := h2.abs
  rw [q3, q4, ← Int.natAbs_mul, q1, q2]
  rcases Int.lt_trichotomy x 0 with hx | hx | hx <;> rcases Int.lt_trichotomy y 0 with hy | hy | hy
  ·have := Int.mul_pos_of_neg_of_neg hx hy; simp [hx, hy]; omega
  ·subst hy; simp
  ·have := Int.mul_neg_of_neg_of_pos hx hy; have hy0 : ¬ y < 0 := Z8; simp [hx, hy0]; omega
  ·subst hx; simp
  ·subst hx; simp
  ·subst hx; simp
  ·have := Int.mul_neg_of_pos_of_neg hx hy; have hx0 : ¬ x < 0 := Z8; simp [hy, hx0]; omega
  ·subst hy; simp
  ·have := Int.mul_pos hx hy; have hx0 : ¬ x < 0 := Z8; have hy0 : ¬ y < 0 := Z8; simp [hx0, hy0]; omega
 have HH := Lib.hid (And.intro (fun W (hk : Keeps (fun _ => False) w W) => r1.kd hk) (And.intro (fun W (hk : Keeps (fun _ => False) w W) => r2.kd hk) (And.intro e1 (And.intro e2 (And.intro h1.wd (And.intro h2.wd hN))))))
 have HM := Lib.hid (fun l (W : World) (hr : Wr W (some ⟨w.heap.size + 1 + 1 + 1, 0, none⟩) N l) (hn : N = l.length) (hd : Wd l) (hv : wv l = wv l1 * wv l2) => made_w (!(m1 == m2)) (some ⟨w.heap.size + 1 + 1 + 1, 0, none⟩) N N l W hr hn hd N Z8 Z8 (x * y) (by rw [hv]; exact hxy))
 have HQ := Lib.hid (fun W (hk : Keeps (fun _ => False) ((w.alloc (.cells #[.bool m1, .slice a1 n1 c1] 101)).alloc (.cells #[.bool m2, .slice a2 n2 c2] 101)) W) => box2_kd (w := w) (a1 := a1) (a2 := a2) (n1 := n1) (n2 := n2) (c1 := c1) (c2 := c2) hk)
 have HR := Lib.hid (fun W (hk : Keeps (fun _ => False) (((w.alloc (.cells #[.bool m1, .slice a1 n1 c1] 101)).alloc (.cells #[.bool m2, .slice a2 n2 c2] 101)).alloc (.cells #[.bool false, .slice none 0 0] 101)) W) => box3_kd (w := w) (a1 := a1) (a2 := a2) (n1 := n1) (n2 := n2) (c1 := c1) (c2 := c2) hk)
 have HB := Lib.hid (Keeps.alloc (Keeps.refl (fun _ => False) ((w.alloc (.cells #[.bool m1, .slice a1 n1 c1] 101)).alloc (.cells #[.bool m2, .slice a2 n2 c2] 101))) (.cells #[.bool false, .slice none 0 0] 101))
 have HW := Lib.hid ((((Keeps.refl (fun _ => False) w).alloc (.cells #[.bool m1, .slice a1 n1 c1] 101)).alloc (.cells #[.bool m2, .slice a2 n2 c2] 101)).alloc (.cells #[.bool false, .slice none 0 0] 101))
 have hmk := run_words N Z8 (((w.alloc (.cells #[.bool m1, .slice a1 n1 c1] 101)).alloc (.cells #[.bool m2, .slice a2 n2 c2] 101)).alloc (.cells #[.bool false, .slice none 0 0] 101))
 have H4 := Lib.hid (row4 (w := w) (m1 := m1) (m2 := m2) (a1 := a1) (a2 := a2) (n1 := n1) (n2 := n2) (c1 := c1) (c2 := c2) (N := N))
 have HNI := Lib.hid (And.intro hn1 hn2)
 have hwn : wrap64 ((n1 : Int) + (n2 : Int)) = (N : Int) := by unfold wrap64; omega
 have cq := (HQ.out (((w.alloc (.cells #[.bool m1, .slice a1 n1 c1] 101)).alloc (.cells #[.bool m2, .slice a2 n2 c2] 101)).alloc (.cells #[.bool false, .slice none 0 0] 101)) HB.out).1
 have cp := (HQ.out (((w.alloc (.cells #[.bool m1, .slice a1 n1 c1] 101)).alloc (.cells #[.bool m2, .slice a2 n2 c2] 101)).alloc (.cells #[.bool false, .slice none 0 0] 101)) HB.out).2
 clear r1 r2 e1 e2 h1 h2 hn1 hn2 hN hxy
 go_enter Tryz.func43, Tryz.ntmps43
 go_wp2
 clear cq cp hmk
 go_loopw [6, 7, 8, 9] (fun q _ _ _ wr => ∃ (i : Nat) (o : List Nat), q = .int .i64 (i : Int) ∧ i ≤ n1 ∧ o.length = i + n2 ∧ Wd o ∧ wv o = wv (l1.take i) * wv l2 ∧ Blk wr (w.heap.size + 3) 35 (ws o ++ List.replicate (N - (i + n2)) z32) ∧ Keeps (fun _ => False) (((w.alloc (.cells #[.bool m1, .slice a1 n1 c1] 101)).alloc (.cells #[.bool m2, .slice a2 n2 c2] 101)).alloc (.cells #[.bool false, .slice none 0 0] 101)) wr) (fun q _ _ _ _ => n1 - (intOf q).toNat)
 case atStart => exact ⟨0, List.replicate n2 0, rfl, Nat.zero_le _, ZA7, fun x hx => by rw [List.eq_of_mem_replicate hx]; decide, by rw [wv_zero]; simp [wv], by rw [ws_zero, Nat.zero_add, List.replicate_append_replicate, show n2 + (N - n2) = N by have := HH.out.2.2.2.2.2.2; omega]; exact H4.out.1, H4.out.2⟩
 case round =>
  obtain ⟨i, o, rfl, hi, ho, hwd, hval, hb, hk⟩ := hrel
  have hk2 := HB.out.trans hk
  have cq := (HQ.out _ hk2).1
  have cp := (HQ.out _ hk2).2
  have HO := Lib.hid (And.intro hi (And.intro ho (And.intro hwd (And.intro hval (And.intro hb hk)))))
  by_cases hlti : i < n1
  ·have hltI : (i : Int) < (n1 : Int) := by omega
   have hi0 : (0 : Int) ≤ (i : Int) := by omega
   obtain ⟨x, hx⟩ : ∃ x, l1[i]? = some x := ⟨_, List.getElem?_eq_getElem (by have := HH.out.2.2.1; omega)⟩
   have HX := Lib.hid (And.intro hx (And.intro (HH.out.2.2.2.2.1 x (List.mem_of_getElem? hx)) (wv_take hx)))
   have HI := Lib.hid hlti
   clear hi ho hwd hval hb hk hk2 hx hlti
   go_wp2
   clear cq cp
   go_loopw [7, 8, 9] (fun c q _ wr => ∃ (k cy : Nat) (p : List Nat), q = .int .i64 (k : Int) ∧ c = .int .u64 (cy : Int) ∧ k ≤ n2 ∧ cy < 4294967296 ∧ p.length = i + n2 ∧ Wd p ∧ wv p + 4294967296 ^ (i + k) * cy = wv (l1.take i) * wv l2 + 4294967296 ^ i * (x * wv (l2.take k)) ∧ Blk wr (w.heap.size + 3) 35 (ws p ++ List.replicate (N - (i + n2)) z32) ∧ Keeps (fun _ => False) (((w.alloc (.cells #[.bool m1, .slice a1 n1 c1] 101)).alloc (.cells #[.bool m2, .slice a2 n2 c2] 101)).alloc (.cells #[.bool false, .slice none 0 0] 101)) wr) (fun _ q _ _ => n2 - (intOf q).toNat)
   case atStart =>
    obtain ⟨_, ho, hwd, hval, hb, hk⟩ := HO.out
    exact ⟨0, 0, o, rfl, rfl, Nat.zero_le _, ZBO, ho, hwd, by rw [hval]; simp [wv], hb, hk⟩
   case round =>
    obtain ⟨k, cy, p, rfl, rfl, hkk, hcy, hp, hwdp, hvalp, hbp, hkp⟩ := hrel
    have hk3 := HB.out.trans hkp
    have cq := (HQ.out _ hk3).1
    have cp := (HQ.out _ hk3).2
    by_cases hltk : k < n2
    ·have hltK : (k : Int) < (n2 : Int) := by omega
     have hk0 : (0 : Int) ≤ (k : Int) := by omega
     obtain ⟨b, hb⟩ : ∃ b, l2[k]? = some b := ⟨_, List.getElem?_eq_getElem (by have := HH.out.2.2.2.1; omega)⟩
     obtain ⟨j, hj⟩ := ZBF (i + k)
     obtain ⟨y, hy⟩ : ∃ y, p[j]? = some y := ⟨_, List.getElem?_eq_getElem (by clear hvalp; omega)⟩
     have hst := Lib.hid (show ∀ v u, v + 4294967296 * u = x * b + y + cy → wv (p.set j v) + 4294967296 ^ (i + (k + 1)) * u = wv (l1.take i) * wv l2 + 4294967296 ^ i * (x * wv (l2.take (k + 1))) from fun v u hvv => by subst hj; exact times_in hvalp (wv_take hb) hy hvv)
     clear hvalp
     have HW1 := Lib.hid (show wrap64 ((i : Int) + (k : Int)) = (j : Int) by unfold wrap64; have := HNI.out; have := HI.out; omega)
     have HW2 := Lib.hid (show wrap64 ((k : Int) + 1) = (k : Int) + 1 by unfold wrap64; have := HNI.out; omega)
     have hjN : (j : Int) < (N : Int) := by have := HH.out.2.2.2.2.2.2; have := HI.out; omega
     have hj0 : (0 : Int) ≤ (j : Int) := by omega
     have hxb := HX.out.2.1
     have hbb := HH.out.2.2.2.2.2.1 b (List.mem_of_getElem? hb)
     have hyb := hwdp y (List.mem_of_getElem? hy)
     have hprod := word_prod hxb hbb hyb hcy
     obtain ⟨m, hm⟩ := ZBF (x * b)
     rw [← hm] at hprod
     have hrow := fun v => set_row (hkp.drew) ZA7 (hbp.drew) (show j < p.length by omega) v
     obtain ⟨b1, rfl, g1⟩ := (HH.out.1 _ (HW.out.trans hkp)).at_ HX.out.1
     obtain ⟨b2, rfl, g2⟩ := (HH.out.2.1 _ (HW.out.trans hkp)).at_ hb
     have g3 := hbp.cell j
     rw [row_at hy] at g3
     have f3 := hbp.frozen j
     obtain ⟨v, hv⟩ := ZBF ((m + y + cy) % 4294967296)
     obtain ⟨u, hu⟩ := ZBF ((m + y + cy) / 4294967296)
     have hub : u < 4294967296 := by omega
     have hvb : v < 4294967296 := by omega
     have hvv : v + 4294967296 * u = x * b + y + cy := by rw [← hm]; omega
     have hwd2 : Wd (p.set j v) := fun z hz => by
      rcases List.mem_or_eq_of_mem_set hz with h | h
      ·exact hwdp z h
      ·rw [h]; exact hvb
     have HR2 := Lib.hid (And.intro (show k + 1 ≤ n2 from hltk) (And.intro hub (And.intro (show (p.set j v).length = i + n2 by simp [hp]) (And.intro hwd2 (And.intro (hst.out v u hvv) (hrow v))))))
     have p1 := wrap_at (s := x) Z8
     have p2 := wrap_at (s := b) Z8
     have p3 := wrap_at (s := y) Z8
     have pm : IntKind.u64.wrap ((x : Int) * (b : Int)) = (m : Int) := by rw [← Int.natCast_mul, ← hm]; exact wrap_at Z8
     have q1 : IntKind.u64.wrap ((m : Int) + (y : Int)) = (m : Int) + (y : Int) := IntWalk.u64_in _ Z8
     have q2 : IntKind.u64.wrap ((m : Int) + (y : Int) + (cy : Int)) = (m : Int) + (y : Int) + (cy : Int) := IntWalk.u64_in _ Z8
     have z0 : (0 : Int) ≤ (m : Int) + (y : Int) + (cy : Int) ∧ (m : Int) + (y : Int) + (cy : Int) ≤ 18446744073709551615 := by omega
     have z3 : ((m : Int) + (y : Int) + (cy : Int)) % 4294967296 = (v : Int) := by omega
     have z4 : ((m : Int) + (y : Int) + (cy : Int)) / 4294967296 = (u : Int) := by omega
     have z1 := low32 z0 z3
     have z2 := high32 z0 z4
     have z5 := wrap_at (s := u) Z8
     clear hst hrow hwd2 hub hvb hvv hv hu hm hprod hxb hbb hyb hb hy hj hp hwdp hbp hkp hk3 hcy hkk hltk z0
     have w1 := HW1.out
     have w2 := HW2.out
     go_wp2
     go_region
     all_goals
      go_wp2
      go_roundw
      case rel => exact ⟨k + 1, u, p.set j v, by rw [w2]; rfl, rfl, HR2.out.1, HR2.out.2.1, HR2.out.2.2.1, HR2.out.2.2.2.1, HR2.out.2.2.2.2.1, HR2.out.2.2.2.2.2.2, HR2.out.2.2.2.2.2.1⟩
      case measure => rw [w2]; exact meas HR2.out.1
    ·obtain rfl : k = n2 := Nat.le_antisymm hkk (Nat.le_of_not_lt hltk)
     have hnew := times_out hp HH.out.2.2.2.1 HX.out.2.2 hvalp
     clear hvalp
     have hI := HI.out
     have hNN := HH.out.2.2.2.2.2.2
     obtain ⟨j, hj⟩ := ZBF (i + k)
     rw [← hj] at hp hbp
     have hrow := row_next (hkp) ZA7 hbp hp Z8 cy
     have g3 := hbp.cell j
     rw [show N - j = N - (j + 1) + 1 by omega, ← hp, ws_at, hp] at g3
     have f3 := hbp.frozen j
     have z1 : (cy : Int) % 4294967296 = (cy : Int) := by omega
     have hwd2 : Wd (p ++ [cy]) := hwdp.app (fun z hz => by simp only [List.mem_singleton] at hz; rw [hz]; exact hcy)
     have HR2 := Lib.hid (And.intro (show i + 1 ≤ n1 from hI) (And.intro (show (p ++ [cy]).length = i + 1 + k by simp; omega) (And.intro hwd2 (And.intro hnew (And.intro (show j + 1 = i + 1 + k by omega) hrow)))))
     have hjN : (j : Int) < (N : Int) := by omega
     have hj0 : (0 : Int) ≤ (j : Int) := by omega
     have w1 : wrap64 ((i : Int) + (k : Int)) = (j : Int) := by unfold wrap64; have := HNI.out; omega
     have HW2 := Lib.hid (show wrap64 ((i : Int) + 1) = (i : Int) + 1 by clear w1; unfold wrap64; have := HNI.out; omega)
     have w2 := HW2.out
     clear hnew hrow hwd2 hwdp hbp hkp hk3 hcy hkk hltk hj hp hI hNN
     go_wp2
     go_roundw
     case rel => exact ⟨i + 1, p ++ [cy], by rw [w2]; rfl, HR2.out.1, HR2.out.2.1, HR2.out.2.2.1, HR2.out.2.2.2.1, by rw [← HR2.out.2.2.2.2.1]; exact HR2.out.2.2.2.2.2.2, HR2.out.2.2.2.2.2.1⟩
     case measure => rw [w2]; exact meas HR2.out.1
  ·obtain rfl : n1 = i := Nat.le_antisymm (Nat.le_of_not_lt hlti) hi
   rw [List.take_of_length_le (by have := HH.out.2.2.1; clear hval; omega)] at hval
   have hoN : N = o.length := by rw [ho]; exact HH.out.2.2.2.2.2.2
   rw [ho] at hoN
   have hb2 : Blk wr (w.heap.size + 3) 35 (ws o) := by
    rw [← hoN, Nat.sub_self] at hb
    simpa using hb
   have HM2 := Lib.hid (HM.out o wr (wr_ws hb2 Z8) Z8 hwd hval)
   have HK5 := Lib.hid hk
   clear hi ho hwd hval hb hk hk2 hb2 hoN hlti
   go_wp2_with (go_at_call 49; (with_reducible refine HM2.out.mono ?_); rintro e w6 ⟨m6, a6, n6, c6, rfl, k6, z6⟩; have HK6 := Lib.hid (show Keeps (fun _ => False) (((w.alloc (.cells #[.bool m1, .slice a1 n1 c1] 101)).alloc (.cells #[.bool m2, .slice a2 n2 c2] 101)).alloc (.cells #[.bool false, .slice none 0 0] 101)) w6 from HK5.out.trans k6); have HZ := Lib.hid z6; have hg := HR.out w6 HK6.out; have cg := hg.cell; have fg := hg.frozen; clear k6 z6 hg)
   exact bodyPost_ret (results_w rfl _ _ (w.heap.size + 2) [.bool false, .slice none 0 0] _ _ _ _ rfl rfl (HR.out _ HK6.out)) rfl (gave_store HW.out (HR.out _ (Keeps.refl _ _)) Z8 HK6.out HZ.out)
theorem times_t (m1 m2 : Bool) (a1 a2 : Option Addr) (n1 n2 c1 c2 : Nat) (x y : Int) (k1 k2 : Nat) (w : World) (h1 : Wz w m1 a1 n1 c1 x k1) (h2 : Wz w m2 a2 n2 c2 y k2) (hk : k1 + k2 ≤ 100000) :
 Calls Tryz.prog 43 #[.agg #[.bool m1, .slice a1 n1 c1], .agg #[.bool m2, .slice a2 n2 c2]] w (GaveW (x * y) (k1 + k2) w) := by
 obtain ⟨⟨l1, e1, r1, w1⟩, b1⟩ := h1
 obtain ⟨⟨l2, e2, r2, w2⟩, b2⟩ := h2
 refine (times_one m1 m2 a1 a2 n1 n2 c1 c2 (n1 + n2) l1 l2 x y w r1 e1 w1 r2 e2 w2 Z8 Z8 rfl).mono ?_
 rintro e w' ⟨neg, a, n, c, q1, q2, q3⟩
 exact ⟨neg, a, n, c, q1, q2, q3.more Z8⟩
end Bg
open Go.RowKit
namespace Bg
open Mem
structure QV where
 m : Bool
 a : Option Addr
 n : Nat
 c : Nat
abbrev Wq (w : World) (q : QV) (z : Int) (k : Nat) : Prop := Wz w q.m q.a q.n q.c z k
def GaveF (x y : Int) (k : Nat) (w : World) (e : Ending) (w' : World) : Prop := ∃ p q : QV, e = .returned (.agg #[.bool p.m, .slice p.a p.n p.c, .bool q.m, .slice q.a q.n q.c]) ∧ Keeps (fun _ => False) w w' ∧ Wq w' p x k ∧ Wq w' q y k
theorem GaveW.q {z : Int} {k : Nat} {w w' : World} {e : Ending} (h : GaveW z k w e w') : ∃ q : QV, e = .returned (.agg #[.bool q.m, .slice q.a q.n q.c]) ∧ Keeps (fun _ => False) w w' ∧ Wq w' q z k := by
 obtain ⟨m, a, n, c, h1, h2, h3⟩ := h
 exact ⟨⟨m, a, n, c⟩, h1, h2, h3⟩
theorem blk4 {w : World} {g : Nat} {ds : List Value} (hg : Blk w g 103 ds) (hl : ds.length = 4) (p q : QV) : Blk ((((w.setCell ⟨g, 0, none⟩ (.bool p.m)).setCell ⟨g, 1, none⟩ (.slice p.a p.n p.c)).setCell ⟨g, 2, none⟩ (.bool q.m)).setCell ⟨g, 3, none⟩ (.slice q.a q.n q.c)) g 103 [.bool p.m, .slice p.a p.n p.c, .bool q.m, .slice q.a q.n q.c] := by
 obtain ⟨x, y, u, v, rfl⟩ : ∃ x y u v, ds = [x, y, u, v] := by
  rcases ds with _ | ⟨x, _ | ⟨y, _ | ⟨u, _ | ⟨v, _ | _⟩⟩⟩⟩ <;> simp at hl
  exact ⟨x, y, u, v, rfl⟩
 exact (((hg.set_ 0 (.bool p.m)).set_ 1 (.slice p.a p.n p.c)).set_ 2 (.bool q.m)).set_ 3 (.slice q.a q.n q.c)
theorem wz_st4 {w : World} {g : Nat} {ds : List Value} (hg : Blk w g 103 ds) (p q r : QV) {z : Int} {k : Nat} (h : Wq w r z k) : Wq ((((w.setCell ⟨g, 0, none⟩ (.bool p.m)).setCell ⟨g, 1, none⟩ (.slice p.a p.n p.c)).setCell ⟨g, 2, none⟩ (.bool q.m)).setCell ⟨g, 3, none⟩ (.slice q.a q.n q.c)) r z k := by
 have g1 := hg.set_ 0 (.bool p.m)
 have g2 := g1.set_ 1 (.slice p.a p.n p.c)
 have g3 := g2.set_ 2 (.bool q.m)
 exact (((h.set_ hg ZBO _).set_ g1 ZBO _).set_ g2 ZBO _).set_ g3 ZBO _
theorem keeps_st4 {S : Nat → Prop} {w W : World} {g : Nat} (hk : Keeps S w W) (hl : w.heap.size ≤ g) (p q : QV) : Keeps S w ((((W.setCell ⟨g, 0, none⟩ (.bool p.m)).setCell ⟨g, 1, none⟩ (.slice p.a p.n p.c)).setCell ⟨g, 2, none⟩ (.bool q.m)).setCell ⟨g, 3, none⟩ (.slice q.a q.n q.c)) :=
 (((hk.setCell (p := ⟨g, 0, none⟩) (fun h => ZAT) _).setCell (p := ⟨g, 1, none⟩) (fun h => ZAT) _).setCell (p := ⟨g, 2, none⟩) (fun h => ZAT) _).setCell (p := ⟨g, 3, none⟩) (fun h => ZAT) _
theorem gave_store4 {x y : Int} {k : Nat} {w W : World} {g : Nat} {ds : List Value} {p q : QV} (hg : Blk W g 103 ds) (hl : w.heap.size ≤ g) (hk : Keeps (fun _ => False) w W) (hp : Wq W p x k) (hq : Wq W q y k) :
 GaveF x y k w (.returned (.agg #[.bool p.m, .slice p.a p.n p.c, .bool q.m, .slice q.a q.n q.c])) ((((W.setCell ⟨g, 0, none⟩ (.bool p.m)).setCell ⟨g, 1, none⟩ (.slice p.a p.n p.c)).setCell ⟨g, 2, none⟩ (.bool q.m)).setCell ⟨g, 3, none⟩ (.slice q.a q.n q.c)) :=
 ⟨p, q, rfl, keeps_st4 hk hl p q, wz_st4 hg p q p hp, wz_st4 hg p q q hq⟩
theorem results_f {fn : Func} {t : Tmp} (hf : fn.results = #[.cell t 103]) (tmps : Array Value) (w : World) (g : Nat) (ds : List Value) (p q : QV) (hl : ds.length = 4) (hp : tmps.getD t undef = .pointer (some ⟨g, 0, none⟩)) (hg : Blk w g 103 ds) :
 (results fn tmps).run Tryz.prog ((((w.setCell ⟨g, 0, none⟩ (.bool p.m)).setCell ⟨g, 1, none⟩ (.slice p.a p.n p.c)).setCell ⟨g, 2, none⟩ (.bool q.m)).setCell ⟨g, 3, none⟩ (.slice q.a q.n q.c)) = .ok (.agg #[.bool p.m, .slice p.a p.n p.c, .bool q.m, .slice q.a q.n q.c]) ((((w.setCell ⟨g, 0, none⟩ (.bool p.m)).setCell ⟨g, 1, none⟩ (.slice p.a p.n p.c)).setCell ⟨g, 2, none⟩ (.bool q.m)).setCell ⟨g, 3, none⟩ (.slice q.a q.n q.c)) :=
 results_cell_row hf _ _ g 103 #[.bool p.m, .slice p.a p.n p.c, .bool q.m, .slice q.a q.n q.c] (0, 0) _ hp (by have := blk4 hg hl p q; simpa [Blk] using this) Tryz.underlying103 rfl ZBL
theorem whole_t (z : Int) (hz : -9223372036854775808 ≤ z ∧ z < 9223372036854775808) (w : World) : Calls Tryz.prog 35 #[.int .i64 z] w (GaveF z 1 2 w) := by
 have H1 := Lib.hid (fun W => of_t z hz W)
 have H2 := Lib.hid (fun W => of_t 1 ZBO W)
 have hB := Blk.new w 103 [.bool false, .slice none 0 0, .bool false, .slice none 0 0]
 have HB := Lib.hid hB
 have HW := Lib.hid ((Keeps.refl (fun _ => False) w).alloc (.cells #[.bool false, .slice none 0 0, .bool false, .slice none 0 0] 103))
 clear hB hz
 go_enter Tryz.func35, Tryz.ntmps35
 go_wp2_with (first
  | ((with_reducible refine (H2.out _).mono ?_); intro e w5 h5; obtain ⟨q, rfl, k5, z5⟩ := h5.q; have HK5 := Lib.hid (HK4.out.trans k5); have HZ := Lib.hid (And.intro (HZ4.out.kd k5) z5); have hg := HB.out.keeps HK5.out (fun h => h); have cg := hg.cell; have fg := hg.frozen; clear k5 z5 hg h5)
  | ((with_reducible refine (H1.out _).mono ?_); intro e w4 h4; obtain ⟨p, rfl, k4, z4⟩ := h4.q; have HK4 := Lib.hid k4; have HZ4 := Lib.hid z4; clear k4 z4 h4))
 exact bodyPost_ret (results_f rfl _ _ w.heap.size [.bool false, .slice none 0 0, .bool false, .slice none 0 0] p q rfl rfl (HB.out.keeps HK5.out (fun h => h))) rfl (gave_store4 (HB.out.keeps HK5.out (fun h => h)) (Nat.le_refl _) (HW.out.trans HK5.out) HZ.out.1 HZ.out.2)
theorem sg_t (p : QV) (z : Int) (k : Nat) (w : World) (h : Wq w p z k) (hk : k ≤ 100000) : Calls Tryz.prog 42 #[.agg #[.bool p.m, .slice p.a p.n p.c]] w (fun e w' => e = .returned (.int .i64 (sg z)) ∧ Keeps (fun _ => False) w w') := sign_t p.m p.a p.n p.c z k w h Z8
theorem tm_t (p q : QV) (x y : Int) (k1 k2 : Nat) (w : World) (h1 : Wq w p x k1) (h2 : Wq w q y k2) (hk : k1 + k2 ≤ 100000) : Calls Tryz.prog 43 #[.agg #[.bool p.m, .slice p.a p.n p.c], .agg #[.bool q.m, .slice q.a q.n q.c]] w (GaveW (x * y) (k1 + k2) w) := times_t _ _ _ _ _ _ _ _ _ _ _ _ w h1 h2 hk
theorem pl_t (p q : QV) (x y : Int) (k1 k2 : Nat) (w : World) (h1 : Wq w p x k1) (h2 : Wq w q y k2) (hk : k1 + k2 ≤ 100000) : Calls Tryz.prog 46 #[.agg #[.bool p.m, .slice p.a p.n p.c], .agg #[.bool q.m, .slice q.a q.n q.c]] w (GaveW (x + y) (k1 + k2 + 1) w) := plus_t _ _ _ _ _ _ _ _ _ _ _ _ w h1 h2 hk
theorem ot_t (p : QV) (x : Int) (k : Nat) (w : World) (h : Wq w p x k) (hk : k ≤ 100000) : Calls Tryz.prog 44 #[.agg #[.bool p.m, .slice p.a p.n p.c]] w (GaveW (-x) k w) := other_t _ _ _ _ _ _ w h Z8
theorem Sign_t (p1 q1 : QV) (x y : Int) (k : Nat) (w : World) (h : Wq w p1 x k) (hk : k ≤ 100000) : Calls Tryz.prog 33 #[.agg #[.bool p1.m, .slice p1.a p1.n p1.c, .bool q1.m, .slice q1.a q1.n q1.c]] w (fun e w' => e = .returned (.int .i64 (sg x)) ∧ Keeps (fun _ => False) w w') := by
 have HS := Lib.hid (fun W (hk' : Keeps (fun _ => False) w W) => sg_t p1 x k W (h.kd hk') hk)
 have c1 := (Blk.new w 103 [.bool p1.m, .slice p1.a p1.n p1.c, .bool q1.m, .slice q1.a q1.n q1.c]).cell
 have HW := Lib.hid ((Keeps.refl (fun _ => False) w).alloc (.cells #[.bool p1.m, .slice p1.a p1.n p1.c, .bool q1.m, .slice q1.a q1.n q1.c] 103))
 clear h hk
 go_enter Tryz.func33, Tryz.ntmps33
 go_wp2_with ((with_reducible refine (HS.out _ HW.out).mono ?_); rintro e w4 ⟨rfl, k4⟩; have HK4 := Lib.hid (HW.out.trans k4); clear k4)
 go_ret
 exact ⟨rfl, HK4.out⟩
theorem boxF_kd {w : World} {p1 q1 p2 q2 : QV} {W : World} (hk : Keeps (fun _ => False) ((w.alloc (.cells #[.bool p1.m, .slice p1.a p1.n p1.c, .bool q1.m, .slice q1.a q1.n q1.c] 103)).alloc (.cells #[.bool p2.m, .slice p2.a p2.n p2.c, .bool q2.m, .slice q2.a q2.n q2.c] 103)) W) : (∀ i : Nat, W.cell? ⟨w.heap.size, i, none⟩ = ([.bool p1.m, .slice p1.a p1.n p1.c, .bool q1.m, .slice q1.a q1.n q1.c] : List Value)[i]?) ∧ (∀ i : Nat, W.cell? ⟨w.heap.size + 1, i, none⟩ = ([.bool p2.m, .slice p2.a p2.n p2.c, .bool q2.m, .slice q2.a q2.n q2.c] : List Value)[i]?) := by
 have h1 := ((Blk.new w 103 [.bool p1.m, .slice p1.a p1.n p1.c, .bool q1.m, .slice q1.a q1.n q1.c]).alloc (.cells #[.bool p2.m, .slice p2.a p2.n p2.c, .bool q2.m, .slice q2.a q2.n q2.c] 103)).keeps hk (fun h => h)
 have h2 := (Blk.new (w.alloc (.cells #[.bool p1.m, .slice p1.a p1.n p1.c, .bool q1.m, .slice q1.a q1.n q1.c] 103)) 103 [.bool p2.m, .slice p2.a p2.n p2.c, .bool q2.m, .slice q2.a q2.n q2.c]).keeps hk (fun h => h)
 simp only [World.size_alloc] at h2
 exact ⟨h1.cell, h2.cell⟩
theorem boxG_kd {w : World} {p1 q1 p2 q2 : QV} {W : World} (hk : Keeps (fun _ => False) (((w.alloc (.cells #[.bool p1.m, .slice p1.a p1.n p1.c, .bool q1.m, .slice q1.a q1.n q1.c] 103)).alloc (.cells #[.bool p2.m, .slice p2.a p2.n p2.c, .bool q2.m, .slice q2.a q2.n q2.c] 103)).alloc (.cells #[.bool false, .slice none 0 0, .bool false, .slice none 0 0] 103)) W) : Blk W (w.heap.size + 2) 103 [.bool false, .slice none 0 0, .bool false, .slice none 0 0] := by
 have h2 := (Blk.new ((w.alloc (.cells #[.bool p1.m, .slice p1.a p1.n p1.c, .bool q1.m, .slice q1.a q1.n q1.c] 103)).alloc (.cells #[.bool p2.m, .slice p2.a p2.n p2.c, .bool q2.m, .slice q2.a q2.n q2.c] 103)) 103 [.bool false, .slice none 0 0, .bool false, .slice none 0 0]).keeps hk (fun h => h)
 simpa only [World.size_alloc] using h2
theorem cmp_t (p1 q1 p2 q2 : QV) (x1 y1 x2 y2 : Int) (k1 k2 : Nat) (w : World) (h1 : Wq w p1 x1 k1) (h2 : Wq w q1 y1 k1) (h3 : Wq w p2 x2 k2) (h4 : Wq w q2 y2 k2) (hk : k1 + k2 ≤ 1000) :
 Calls Tryz.prog 36 #[.agg #[.bool p1.m, .slice p1.a p1.n p1.c, .bool q1.m, .slice q1.a q1.n q1.c], .agg #[.bool p2.m, .slice p2.a p2.n p2.c, .bool q2.m, .slice q2.a q2.n q2.c]] w (fun e w' => e = .returned (.int .i64 (sg (x1 * y2 - x2 * y1))) ∧ Keeps (fun _ => False) w w') := by
 have HT1 := Lib.hid (fun W (hk' : Keeps (fun _ => False) w W) => tm_t p1 q2 x1 y2 k1 k2 W (h1.kd hk') (h4.kd hk') Z8)
 have HT2 := Lib.hid (fun W (hk' : Keeps (fun _ => False) w W) => tm_t p2 q1 x2 y1 k2 k1 W (h3.kd hk') (h2.kd hk') Z8)
 have HO := Lib.hid (fun r W (hz : Wq W r (x2 * y1) (k2 + k1)) => ot_t r (x2 * y1) (k2 + k1) W hz Z8)
 have HP := Lib.hid (fun r s W (hr : Wq W r (x1 * y2) (k1 + k2)) (hs : Wq W s (-(x2 * y1)) (k2 + k1)) => pl_t r s _ _ _ _ W hr hs Z8)
 have HS := Lib.hid (fun r W (hz : Wq W r (x1 * y2 + -(x2 * y1)) (k1 + k2 + (k2 + k1) + 1)) => sg_t r _ _ W hz Z8)
 have HQ := Lib.hid (fun W (hk : Keeps (fun _ => False) ((w.alloc (.cells #[.bool p1.m, .slice p1.a p1.n p1.c, .bool q1.m, .slice q1.a q1.n q1.c] 103)).alloc (.cells #[.bool p2.m, .slice p2.a p2.n p2.c, .bool q2.m, .slice q2.a q2.n q2.c] 103)) W) => boxF_kd (w := w) (p1 := p1) (q1 := q1) (p2 := p2) (q2 := q2) hk)
 have hE : x1 * y2 - x2 * y1 = x1 * y2 + -(x2 * y1) := by omega
 rw [hE]
 obtain ⟨z, hz⟩ := ZBF (x1 * y2 + -(x2 * y1))
 rw [← hz] at HS HP ⊢
 clear h1 h2 h3 h4 hk hE hz
 go_enter Tryz.func36, Tryz.ntmps36
 go_wp2
 go_region_held3 (fun W => (∀ i : Nat, W.cell? ⟨w.heap.size, i, none⟩ = ([.bool p1.m, .slice p1.a p1.n p1.c, .bool q1.m, .slice q1.a q1.n q1.c] : List Value)[i]?) ∧ (∀ i : Nat, W.cell? ⟨w.heap.size + 1, i, none⟩ = ([.bool p2.m, .slice p2.a p2.n p2.c, .bool q2.m, .slice q2.a q2.n q2.c] : List Value)[i]?)) (first | with_reducible assumption | exact HQ.out _ Z2) (first
  | (go_at_call 43; (with_reducible refine (HT1.out _ ZA8).mono ?_); intro e w5 h5; obtain ⟨r5, rfl, k5, z5⟩ := h5.q; have HK5 := Lib.hid k5; have HZ5 := Lib.hid z5; clear k5 z5 h5)
  | (go_at_call 43; (with_reducible refine (HT2.out _ ZA8).mono ?_); intro e w6 h6; obtain ⟨r6, rfl, k6, z6⟩ := h6.q; have HK6 := Lib.hid k6; have HZ6 := Lib.hid z6; clear k6 z6 h6)
  | (go_at_call 44; (with_reducible refine (HO.out r6 _ (HZ6.out.kd Z2)).mono ?_); intro e w7 h7; obtain ⟨r7, rfl, k7, z7⟩ := h7.q; have HK7 := Lib.hid k7; have HZ7 := Lib.hid z7; clear k7 z7 h7)
  | (go_at_call 46; (with_reducible refine (HP.out r5 r7 _ (HZ5.out.kd Z2) (HZ7.out.kd Z2)).mono ?_); intro e w8 h8; obtain ⟨r8, rfl, k8, z8⟩ := h8.q; have HK8 := Lib.hid k8; have HZ8 := Lib.hid z8; clear k8 z8 h8)
  | (go_at_call 42; (with_reducible refine (HS.out r8 _ (HZ8.out.kd Z2)).mono ?_); rintro e w9 ⟨rfl, k9⟩; have HK9 := Lib.hid k9; clear k9))
 all_goals
  go_wp2
  go_ret
  exact ⟨rfl, ZA8⟩
end Bg
end Go.Proofs.YtdbpfbokfmpgcaaGreat
