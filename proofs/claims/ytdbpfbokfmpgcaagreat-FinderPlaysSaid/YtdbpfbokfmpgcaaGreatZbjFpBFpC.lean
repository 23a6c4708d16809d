/-
FpB: whole numbers of any length: low, sum, less.
FpC: whole numbers of any length: plus.
-/
import Derived.Test.YtdbpfbokfmpgcaaGreatZbiBgAFpA
import Derived.Laws.OwnMore
import Derived.Test.YtdbpfbokfmpgcaaGreatZaaMemIterTreeAHeldGrowIter
set_option linter.unusedVariables false
set_option linter.unusedSimpArgs false
set_option linter.ambiguousOpen false
set_option maxHeartbeats 16000000
set_option maxRecDepth 100000
attribute [local go_sem] Go.Oper.semAt_some
namespace Go.Proofs.YtdbpfbokfmpgcaaGreat
theorem ZBF {α : Type} (x : α) : ∃ y, y = x := ⟨_, rfl⟩
theorem Z9 {p : Prop} (h : p := by (repeat (first | exact Keeps.refl _ _ | exact HK6.out | exact HK5.out | exact HK4.out | exact HJ6.out | exact HJ5.out | exact HJ4.out | refine Keeps.alloc ?_ _ | refine Keeps.drew ?_ | refine Keeps.setCell ?_ (by simp) _))) : p := h
theorem ZAp {p : Prop} (h : p := by unfold wrap64; have := HNI.out; omega) : p := h
theorem Zv {p : Prop} (h : p := by
 have q1 := h1.sgn; have q2 := h2.sgn; have q3 := h1.abs; have q4 := h2.abs
 cases m1 <;> cases m2
 ·exact absurd rfl hm
 ·have : ¬ x < 0 := by simpa using q1
  have : y < 0 := by simpa using q2
  simp; omega
 ·have : x < 0 := by simpa using q1
  have : ¬ y < 0 := by simpa using q2
  simp; omega
 ·exact absurd rfl hm) : p := h
open Go.RowKit
namespace Bg
open Mem
/-! which of two rows is less -/
theorem low_ge {a b : List Nat} (ha : Wd a) (hb : Wd b) (ta : Top a) (tb : Top b) (h : a.length ≠ b.length) : (b.length < a.length ↔ wv b ≤ wv a) := by
 constructor
 ·intro h; exact Nat.le_of_lt (wv_longer hb ta h)
 ·intro h2
  refine Nat.lt_of_le_of_ne (Nat.le_of_not_lt fun hl => ?_) (Ne.symm h)
  have := wv_longer ha tb hl; omega
theorem low_t (a1 a2 : Option Addr) (n1 n2 c1 c2 : Nat) (l1 l2 : List Nat) (w : World) (h1 : Wr w a1 c1 l1) (h2 : Wr w a2 c2 l2) (e1 : n1 = l1.length) (e2 : n2 = l2.length) (w1 : Wd l1) (w2 : Wd l2) (t1 : Top l1) (t2 : Top l2) (hn1 : (n1 : Int) ≤ 1000000) :
 Calls Tryz.prog 51 #[.slice a1 n1 c1, .slice a2 n2 c2] w (fun e w' => ∃ z : Int, e = .returned (.int .i64 z) ∧ (0 ≤ z ↔ wv l2 ≤ wv l1) ∧ Keeps (fun _ => False) w w') := by
 by_cases hne : n1 = n2
 ·subst hne
  have HH := Lib.hid (And.intro h1 (And.intro h2 (And.intro e1 (And.intro e2 (And.intro w1 (And.intro w2 hn1))))))
  have HW0 := Lib.hid (show wrap64 ((n1 : Int) - 1) = (n1 : Int) - 1 by unfold wrap64; omega)
  clear h1 h2 e1 e2 w1 w2 t1 t2 hn1
  go_enter Tryz.func51, Tryz.ntmps51
  go_wp2
  go_loopw [5] (fun p wr => ∃ m : Nat, m ≤ n1 ∧ p = .int .i64 ((m : Int) - 1) ∧ l1.drop m = l2.drop m ∧ Keeps (fun _ => False) w wr) (fun p _ => (intOf p + 1).toNat)
  case atStart => exact ⟨n1, Nat.le_refl _, by rw [HW0.out], by have := HH.out; rw [List.drop_of_length_le Z8, List.drop_of_length_le Z8], Keeps.refl _ _⟩
  case round =>
   obtain ⟨m, hm, rfl, hd, hk⟩ := hrel
   obtain ⟨h1, h2, e1, e2, w1, w2, hn1⟩ := HH.out
   have HD := Lib.hid (And.intro hd hk)
   by_cases h0 : m = 0
   ·subst h0
    have hg : ¬ (((0 : Nat) : Int) - 1 ≥ 0) := by omega
    clear h1 h2 e1 e2 w1 w2 hn1 hd hk
    go_wp2
    go_ret
    have := HD.out.1
    simp only [List.drop_zero] at this
    exact ⟨0, rfl, by rw [this]; simp, HD.out.2⟩
   ·obtain ⟨i, rfl⟩ : ∃ i, m = i + 1 := ⟨m - 1, Z8⟩
    have hi : (((i + 1 : Nat) : Int) - 1) = (i : Int) := by omega
    rw [hi]
    obtain ⟨x, hx⟩ : ∃ x, l1[i]? = some x := ⟨_, List.getElem?_eq_getElem Z8⟩
    obtain ⟨y, hy⟩ : ∃ y, l2[i]? = some y := ⟨_, List.getElem?_eq_getElem Z8⟩
    obtain ⟨b1, rfl, cx⟩ := (h1.kd hk).at_ hx
    obtain ⟨b2, rfl, cy⟩ := (h2.kd hk).at_ hy
    have hin : (i : Int) < (n1 : Int) := by omega
    have hi0 : (i : Int) ≥ 0 := by omega
    have hw : wrap64 ((i : Int) - 1) = (i : Int) - 1 := by unfold wrap64; omega
    have HX := Lib.hid (And.intro hx hy)
    have HM := Lib.hid hm
    clear h1 h2 e1 e2 w1 w2 hn1 hd hk hx hy hm h0 hi
    rcases Nat.lt_trichotomy x y with hxy | hxy | hxy
    ·have hlt : (x : Int) < (y : Int) := by omega
     have HL := Lib.hid hxy
     clear hxy
     go_wp2
     go_region
     all_goals
      go_wp2
      go_ret
      obtain ⟨h1, h2, e1, e2, w1, w2, hn1⟩ := HH.out
      have hl := wv_less Z8 w1 HX.out.1 HX.out.2 HL.out HD.out.1
      exact ⟨_, rfl, Z8, HD.out.2.drew⟩
    ·subst hxy
     have hlt : ¬ (x : Int) < (x : Int) := by omega
     go_wp2
     go_region
     all_goals
      go_wp2
      go_region
      all_goals
       go_wp2
       go_roundw
       case rel =>
        refine ⟨i, by have := HM.out; omega, by rw [hw], ?_, HD.out.2.drew.drew⟩
        rw [List.drop_eq_getElem_cons (by have := HH.out; have := HM.out; omega), List.drop_eq_getElem_cons (l := l2) (by have := HH.out; have := HM.out; omega)]
        have q1 := HX.out.1
        have q2 := HX.out.2
        rw [List.getElem?_eq_some_iff] at q1 q2
        obtain ⟨_, q1⟩ := q1
        obtain ⟨_, q2⟩ := q2
        rw [q1, q2, HD.out.1]
       case measure => rw [hw]; simp only [intOf]; omega
    ·have hlt : ¬ (x : Int) < (y : Int) := by omega
     have hgt : (x : Int) > (y : Int) := by omega
     have HL := Lib.hid hxy
     clear hxy
     go_wp2
     go_region
     all_goals
      go_wp2
      go_region
      all_goals
       go_wp2
       go_ret
       obtain ⟨h1, h2, e1, e2, w1, w2, hn1⟩ := HH.out
       have hl := wv_less Z8 w2 HX.out.2 HX.out.1 HL.out HD.out.1.symm
       exact ⟨_, rfl, Z8, HD.out.2.drew.drew⟩
 ·have hg := low_ge w1 w2 t1 t2 (by rw [← e1, ← e2]; exact hne)
  rw [← e1, ← e2] at hg
  have HG := Lib.hid hg
  have hneI : ¬ (n1 : Int) = (n2 : Int) := by omega
  rcases Nat.lt_or_ge n1 n2 with hlt | hge
  ·have hltI : (n1 : Int) < (n2 : Int) := by omega
   clear h1 h2 e1 e2 w1 w2 t1 t2 hn1 hg
   go_enter Tryz.func51, Tryz.ntmps51
   go_wp2
   go_ret
   exact ⟨_, rfl, by have := HG.out; omega, Keeps.refl _ _⟩
  ·have hltI : ¬ (n1 : Int) < (n2 : Int) := by omega
   clear h1 h2 e1 e2 w1 w2 t1 t2 hn1 hg
   go_enter Tryz.func51, Tryz.ntmps51
   go_wp2
   go_ret
   exact ⟨_, rfl, by have := HG.out; omega, Keeps.refl _ _⟩
def ws (l : List Nat) : List Value := l.map fun x => .int .u32 ((x : Nat) : Int)
def z32 : Value := .int .u32 0
theorem ws_len (l : List Nat) : (ws l).length = l.length := by simp [ws]
theorem ws_set (o : List Nat) (y k : Nat) : (ws o ++ List.replicate (k + 1) z32).set o.length (.int .u32 (y : Int)) = ws (o ++ [y]) ++ List.replicate k z32 := by
 rw [List.set_append_right _ _ (by rw [ws_len]; omega), ws_len, Nat.sub_self, List.replicate_succ, List.set_cons_zero]
 simp [ws]
theorem ws_at (o : List Nat) (k : Nat) : (ws o ++ List.replicate (k + 1) z32)[o.length]? = some z32 := by
 rw [List.getElem?_append_right (by rw [ws_len]; omega), ws_len, Nat.sub_self, List.replicate_succ]; rfl
theorem wr_ws {w : World} {g c : Nat} {l : List Nat} (h : Blk w g 35 (ws l)) (hc : l.length ≤ c) : Wr w (some ⟨g, 0, none⟩) c l :=
 ⟨hc, .inr ⟨g, _, rfl, h, fun i x hx => by simp [ws, hx]⟩⟩
theorem run_words (N : Nat) (hN : N ≤ 1000000) (W : World) : (Instr.makeSlice 45 (.int .i64 (N : Int)) (.int .i64 (N : Int))).run Tryz.prog W = .ok (.slice (some ⟨W.heap.size, 0, none⟩) N N) (W.alloc (.cells (List.replicate N z32).toArray 35)) := by
 have h0 : (Tryz.prog.info? 35).map (fun i => (i.size, i.bytes, i.zero)) = some (1, 4, some z32) := by kernel_rfl
 obtain ⟨i, hi, h1⟩ := Option.map_eq_some_iff.1 h0
 simp only [Prod.mk.injEq] at h1
 obtain ⟨h1, h2, h3⟩ := h1
 have h := run_make_rowN (P := Tryz.prog) 45 35 i z32 1 4 Tryz.underlying45 hi h3 h1 h2 .i64 .i64 N N (Nat.le_refl _) Z8 Z8 W
 rw [h]
 have e : madeCells z32.cells (N * 1) = (List.replicate N z32).toArray := by
  apply Array.ext'
  rw [Nat.mul_one]
  exact toList_madeCells_one z32 N
 rw [e]
def GaveR (v N : Nat) (w : World) (e : Ending) (w' : World) : Prop := ∃ g l, e = .returned (.slice (some ⟨g, 0, none⟩) N N) ∧ Keeps (fun _ => False) w w' ∧ Wr w' (some ⟨g, 0, none⟩) N l ∧ N = l.length ∧ Wd l ∧ wv l = v
theorem sum_end {a b o : List Nat} {N c : Nat} (hN : a.length < N) (hM : b.length < N) (ha : Wd a) (hb : Wd b) (h : wv o + 4294967296 ^ N * c = wv (a.take N) + wv (b.take N)) : wv o = wv a + wv b := by
 rw [List.take_of_length_le Z8, List.take_of_length_le Z8] at h
 have h1 := wv_lt ha
 have h2 := wv_lt hb
 have p1 := Nat.pow_le_pow_right (n := 4294967296) ZBO (show a.length ≤ N - 1 by omega)
 have p2 := Nat.pow_le_pow_right (n := 4294967296) ZBO (show b.length ≤ N - 1 by omega)
 have e : 4294967296 ^ N = 4294967296 ^ (N - 1) * 4294967296 := by rw [← Nat.pow_succ]; congr 1; omega
 rcases Nat.eq_zero_or_pos c with rfl | hc
 ·simpa using h
 ·have := Nat.mul_le_mul_left (4294967296 ^ N) hc
  omega
theorem word_at (l : List Nat) (hl : Wd l) (i : Nat) : ∃ x, x < 4294967296 ∧ wv (l.take (i + 1)) = wv (l.take i) + 4294967296 ^ i * x ∧ (i < l.length → l[i]? = some x) ∧ (l.length ≤ i → x = 0) := by
 rcases Nat.lt_or_ge i l.length with h | h
 ·obtain ⟨x, hx⟩ : ∃ x, l[i]? = some x := ⟨_, List.getElem?_eq_getElem h⟩
  exact ⟨x, hl x (List.mem_of_getElem? hx), wv_take hx, fun _ => hx, fun h' => Z8⟩
 ·exact ⟨0, ZBO, take_over h, fun h' => Z8, fun _ => rfl⟩
theorem low32 {s : Int} (h : 0 ≤ s ∧ s ≤ 18446744073709551615) {v : Nat} (hv : s % 4294967296 = (v : Int)) : s.tmod 4294967296 % 4294967296 = (v : Int) := by
 rw [Int.tmod_eq_emod_of_nonneg h.1]; omega
theorem high32 {s : Int} (h : 0 ≤ s ∧ s ≤ 18446744073709551615) {v : Nat} (hv : s / 4294967296 = (v : Int)) : IntKind.u64.wrap (s.tdiv 4294967296) = (v : Int) := by
 rw [IntWalk.u64_quo _ _ ⟨h.1, h.2, ZBO⟩, hv]
theorem meas {i N : Nat} (h : i + 1 ≤ N) : N - (intOf (.int .i64 ((i : Int) + 1))).toNat < N - (intOf (.int .i64 (i : Int))).toNat := by
 simp only [intOf]; omega
theorem wrap_at {s : Nat} (h : s < 18446744073709551616) : IntKind.u64.wrap (s : Int) = (s : Int) := IntWalk.u64_in _ Z8
theorem row_next {w wr : World} {g N i : Nat} {o : List Nat} (hk : Keeps (fun _ => False) w wr) (hg : w.heap.size ≤ g) (hb : Blk wr g 35 ((ws o) ++ List.replicate (N - i) z32)) (ho : o.length = i) (hi : i < N) (y : Nat) :
 Keeps (fun _ => False) w (wr.setCell ⟨g, i, none⟩ (.int .u32 (y : Int))) ∧ Blk (wr.setCell ⟨g, i, none⟩ (.int .u32 (y : Int))) g 35 ((ws (o ++ [y])) ++ List.replicate (N - (i + 1)) z32) := by
 refine ⟨hk.setCell (p := ⟨g, i, none⟩) (fun h => ZAT) _, ?_⟩
 have := hb.set_ i (.int .u32 (y : Int))
 rw [show N - i = N - (i + 1) + 1 by omega, ← ho, ws_set, ho] at this
 exact this
theorem sum_t (a1 a2 : Option Addr) (n1 n2 c1 c2 N : Nat) (l1 l2 : List Nat) (w : World) (h1 : Wr w a1 c1 l1) (h2 : Wr w a2 c2 l2) (e1 : n1 = l1.length) (e2 : n2 = l2.length) (w1 : Wd l1) (w2 : Wd l2) (hn1 : (n1 : Int) ≤ 100000) (hn2 : (n2 : Int) ≤ 100000) (hN : N = max n1 n2 + 1) :
 Calls Tryz.prog 50 #[.slice a1 n1 c1, .slice a2 n2 c2] w (GaveR (wv l1 + wv l2) N w) := by
 have HH := Lib.hid (And.intro h1 (And.intro h2 (And.intro e1 (And.intro e2 (And.intro w1 (And.intro w2 hN))))))
 have hmk := run_words N Z8 w
 have bN := Blk.new w 35 (List.replicate N z32)
 have HB := Lib.hid bN
 have HK := Lib.hid ((Keeps.refl (fun _ => False) w).alloc (.cells (List.replicate N z32).toArray 35))
 have HNI := Lib.hid (show (N : Int) ≤ 100001 by omega)
 have key : ∀ (W : World), ((Code.wp Tryz.prog (Tryz.f50.body.getD .skip)) (fun _ _ _ => True) ⟨#[], []⟩ W → True) := fun _ _ => trivial
 clear key
 have hmax : ((n1 : Int) < (n2 : Int) ∧ wrap64 ((n2 : Int) + 1) = (N : Int)) ∨ (¬ (n1 : Int) < (n2 : Int) ∧ wrap64 ((n1 : Int) + 1) = (N : Int)) := by
  unfold wrap64
  rcases Nat.lt_or_ge n1 n2 with h | h
  ·exact .inl ⟨Z8, Z8⟩
  ·exact .inr ⟨Z8, Z8⟩
 clear h1 h2 e1 e2 w1 w2 hn1 hn2 hN bN
 rcases hmax with ⟨hlt, hw⟩ | ⟨hlt, hw⟩
 all_goals
  go_enter Tryz.func50, Tryz.ntmps50
  go_wp2
  clear hlt
  go_loopw [7, 8, 9] (fun c q x wr => ∃ (i cy : Nat) (o : List Nat), q = .int .i64 (i : Int) ∧ c = .int .u64 (cy : Int) ∧ i ≤ N ∧ cy ≤ 1 ∧ o.length = i ∧ Wd o ∧ wv o + 4294967296 ^ i * cy = wv (l1.take i) + wv (l2.take i) ∧ Blk wr w.heap.size 35 ((ws o) ++ List.replicate (N - i) z32) ∧ Keeps (fun _ => False) w wr) (fun _ q _ _ => N - (intOf q).toNat)
  case atStart => exact ⟨0, 0, [], rfl, rfl, Nat.zero_le _, Nat.zero_le _, rfl, fun x hx => by simp at hx, by simp [wv], HB.out, HK.out⟩
  case round =>
   obtain ⟨i, cy, o, rfl, rfl, hi, hcy, ho, hwd, hval, hb, hk⟩ := hrel
   obtain ⟨h1, h2, e1, e2, w1, w2, hN⟩ := HH.out
   have HQ := Lib.hid (And.intro hi (And.intro ho (And.intro hwd (And.intro hval (And.intro hb hk)))))
   by_cases hlti : i < N
   ·obtain ⟨x, hx1', hx2, hx3, hx4⟩ := word_at l1 w1 i
    obtain ⟨y, hy1', hy2, hy3, hy4⟩ := word_at l2 w2 i
    have ch := hb.cell i
    rw [show N - i = N - (i + 1) + 1 by omega, ← ho, ws_at, ho] at ch
    have fh := hb.frozen i
    have hltI : (i : Int) < (N : Int) := by omega
    have hi0 : (0 : Int) ≤ (i : Int) := by omega
    obtain ⟨v, hv⟩ := ZBF ((cy + x + y) % 4294967296)
    obtain ⟨u, hu⟩ := ZBF ((cy + x + y) / 4294967296)
    have hu1 : u ≤ 1 := by clear hval hx2 hy2; omega
    have hstep := sum_step ho hval hx2 hy2
    rw [← hv, ← hu] at hstep
    have hvb : v < 4294967296 := by rw [hv]; exact Nat.mod_lt _ ZBO
    have hwd2 : Wd (o ++ [v]) := hwd.app (fun z hz => by simp only [List.mem_singleton] at hz; rw [hz]; exact hvb)
    have hrow := row_next hk (Nat.le_refl _) hb ho hlti v
    have HR := Lib.hid (And.intro (show i + 1 ≤ N from hlti) (And.intro hu1 (And.intro (show (o ++ [v]).length = i + 1 by simp [ho]) (And.intro hwd2 (And.intro hstep hrow)))))
    clear hstep hwd2 hu1 hrow hx2 hy2 hb hval hwd hi HQ hvb
    have hxb : x < 4294967296 := hx1'
    have hyb : y < 4294967296 := hy1'
    by_cases hi1 : i < n1
    ·have hx := hx3 Z8
     obtain ⟨b1, rfl, g1⟩ := (h1.kd hk).at_ hx
     have hiI : (i : Int) < (n1 : Int) := by omega
     have p1 := wrap_at (s := x) Z8
     have q1 : IntKind.u64.wrap ((cy : Int) + (x : Int)) = (cy : Int) + (x : Int) := IntWalk.u64_in _ Z8
     clear hx hx3 hx4
     by_cases hi2 : i < n2
     ·have hy := hy3 Z8
      obtain ⟨b2, rfl, g2⟩ := (h2.kd hk).at_ hy
      have hjI : (i : Int) < (n2 : Int) := by omega
      have p2 := wrap_at (s := y) Z8
      have q2 : IntKind.u64.wrap ((cy : Int) + (x : Int) + (y : Int)) = (cy : Int) + (x : Int) + (y : Int) := IntWalk.u64_in _ Z8
      clear hy hy3 hy4 hi1 hi2
      (have z0 : (0 : Int) ≤ (cy : Int) + (x : Int) + (y : Int) ∧ (cy : Int) + (x : Int) + (y : Int) ≤ 18446744073709551615 := Z8; have z3 : ((cy : Int) + (x : Int) + (y : Int)) % 4294967296 = (v : Int) := Z8; have z1 := low32 z0 z3; have z4 : ((cy : Int) + (x : Int) + (y : Int)) / 4294967296 = (u : Int) := Z8; have z2 := high32 z0 z4; have z5 := wrap_at (s := u) (by have := HR.out.2.1; omega); have wi : wrap64 ((i : Int) + 1) = (i : Int) + 1 := ZAp; clear hv hu hk h1 h2 e1 e2 w1 w2 hN hlti ho hcy hxb hyb z0 hx1' hy1'; go_wp2; go_roundw; (case rel => exact ⟨i + 1, u, o ++ [v], by rw [wi]; rfl, rfl, HR.out.1, HR.out.2.1, HR.out.2.2.1, HR.out.2.2.2.1, HR.out.2.2.2.2.1, HR.out.2.2.2.2.2.2, HR.out.2.2.2.2.2.1⟩); (case measure => rw [wi]; exact meas HR.out.1))
     ·have hy := hy4 Z8
      subst hy
      have hjI : ¬ (i : Int) < (n2 : Int) := by omega
      clear hy3 hy4 hi1 hi2
      (have z0 : (0 : Int) ≤ (cy : Int) + (x : Int) ∧ (cy : Int) + (x : Int) ≤ 18446744073709551615 := Z8; have z3 : ((cy : Int) + (x : Int)) % 4294967296 = (v : Int) := Z8; have z1 := low32 z0 z3; have z4 : ((cy : Int) + (x : Int)) / 4294967296 = (u : Int) := Z8; have z2 := high32 z0 z4; have z5 := wrap_at (s := u) (by have := HR.out.2.1; omega); have wi : wrap64 ((i : Int) + 1) = (i : Int) + 1 := ZAp; clear hv hu hk h1 h2 e1 e2 w1 w2 hN hlti ho hcy hxb hyb z0 hx1' hy1'; go_wp2; go_roundw; (case rel => exact ⟨i + 1, u, o ++ [v], by rw [wi]; rfl, rfl, HR.out.1, HR.out.2.1, HR.out.2.2.1, HR.out.2.2.2.1, HR.out.2.2.2.2.1, HR.out.2.2.2.2.2.2, HR.out.2.2.2.2.2.1⟩); (case measure => rw [wi]; exact meas HR.out.1))
    ·have hx := hx4 Z8
     subst hx
     have hiI : ¬ (i : Int) < (n1 : Int) := by omega
     clear hx3 hx4
     by_cases hi2 : i < n2
     ·have hy := hy3 Z8
      obtain ⟨b2, rfl, g2⟩ := (h2.kd hk).at_ hy
      have hjI : (i : Int) < (n2 : Int) := by omega
      have p2 := wrap_at (s := y) Z8
      have q2 : IntKind.u64.wrap ((cy : Int) + (y : Int)) = (cy : Int) + (y : Int) := IntWalk.u64_in _ Z8
      clear hy hy3 hy4 hi1 hi2
      (have z0 : (0 : Int) ≤ (cy : Int) + (y : Int) ∧ (cy : Int) + (y : Int) ≤ 18446744073709551615 := Z8; have z3 : ((cy : Int) + (y : Int)) % 4294967296 = (v : Int) := Z8; have z1 := low32 z0 z3; have z4 : ((cy : Int) + (y : Int)) / 4294967296 = (u : Int) := Z8; have z2 := high32 z0 z4; have z5 := wrap_at (s := u) (by have := HR.out.2.1; omega); have wi : wrap64 ((i : Int) + 1) = (i : Int) + 1 := ZAp; clear hv hu hk h1 h2 e1 e2 w1 w2 hN hlti ho hcy hxb hyb z0 hx1' hy1'; go_wp2; go_roundw; (case rel => exact ⟨i + 1, u, o ++ [v], by rw [wi]; rfl, rfl, HR.out.1, HR.out.2.1, HR.out.2.2.1, HR.out.2.2.2.1, HR.out.2.2.2.2.1, HR.out.2.2.2.2.2.2, HR.out.2.2.2.2.2.1⟩); (case measure => rw [wi]; exact meas HR.out.1))
     ·have hy := hy4 Z8
      subst hy
      have hjI : ¬ (i : Int) < (n2 : Int) := by omega
      clear hy3 hy4 hi1 hi2
      (have z0 : (0 : Int) ≤ (cy : Int) ∧ (cy : Int) ≤ 18446744073709551615 := Z8; have z3 : ((cy : Int)) % 4294967296 = (v : Int) := Z8; have z1 := low32 z0 z3; have z4 : ((cy : Int)) / 4294967296 = (u : Int) := Z8; have z2 := high32 z0 z4; have z5 := wrap_at (s := u) (by have := HR.out.2.1; omega); have wi : wrap64 ((i : Int) + 1) = (i : Int) + 1 := ZAp; clear hv hu hk h1 h2 e1 e2 w1 w2 hN hlti ho hcy hxb hyb z0 hx1' hy1'; go_wp2; go_roundw; (case rel => exact ⟨i + 1, u, o ++ [v], by rw [wi]; rfl, rfl, HR.out.1, HR.out.2.1, HR.out.2.2.1, HR.out.2.2.2.1, HR.out.2.2.2.2.1, HR.out.2.2.2.2.2.2, HR.out.2.2.2.2.2.1⟩); (case measure => rw [wi]; exact meas HR.out.1))
   ·obtain rfl : i = N := Nat.le_antisymm hi (Nat.le_of_not_lt hlti)
    have hl : wv o = wv l1 + wv l2 := sum_end (by clear hval; omega) (by clear hval; omega) w1 w2 hval
    have hb2 : Blk wr w.heap.size 35 (ws o) := by simpa using hb
    have HE := Lib.hid (And.intro hl (And.intro hk (And.intro (wr_ws hb2 (Nat.le_of_eq ho)) (And.intro ho hwd))))
    clear hl hb2 hb hk ho hwd hval h1 h2 e1 e2 w1 w2 hN HQ
    go_wp2
    go_ret
    exact ⟨_, o, rfl, HE.out.2.1, HE.out.2.2.1, HE.out.2.2.2.1.symm, HE.out.2.2.2.2, HE.out.1⟩
theorem less_step {a b o : List Nat} {i x y c v c' : Nat} (hlen : o.length = i) (h : wv o + wv (b.take i) = wv (a.take i) + 4294967296 ^ i * c) (hx : wv (a.take (i + 1)) = wv (a.take i) + 4294967296 ^ i * x) (hy : wv (b.take (i + 1)) = wv (b.take i) + 4294967296 ^ i * y) (hv : v + y + c = x + 4294967296 * c') :
 wv (o ++ [v]) + wv (b.take (i + 1)) = wv (a.take (i + 1)) + 4294967296 ^ (i + 1) * c' := by
 rw [wv_snoc, hlen, hx, hy, Nat.pow_succ]
 have h2 : 4294967296 ^ i * v + 4294967296 ^ i * y + 4294967296 ^ i * c = 4294967296 ^ i * x + 4294967296 ^ i * 4294967296 * c' := by
  rw [Nat.mul_assoc, ← Nat.mul_add, ← Nat.mul_add, ← Nat.mul_add, hv]
 omega
theorem less_end {a b o : List Nat} {N c : Nat} (hN : a.length = N) (hM : b.length ≤ N) (ho : o.length = N) (hw : Wd o) (hle : wv b ≤ wv a) (h : wv o + wv (b.take N) = wv (a.take N) + 4294967296 ^ N * c) : wv o = wv a - wv b := by
 rw [List.take_of_length_le Z8, List.take_of_length_le Z8] at h
 have h1 := wv_lt hw
 rw [ho] at h1
 rcases Nat.eq_zero_or_pos c with rfl | hc
 ·simp only [Nat.mul_zero] at h; omega
 ·have := Nat.mul_le_mul_left (4294967296 ^ N) hc
  omega
theorem less_t (a1 a2 : Option Addr) (N n2 c1 c2 : Nat) (l1 l2 : List Nat) (w : World) (h1 : Wr w a1 c1 l1) (h2 : Wr w a2 c2 l2) (e1 : N = l1.length) (e2 : n2 = l2.length) (w1 : Wd l1) (w2 : Wd l2) (t2 : Top l2) (hn1 : (N : Int) ≤ 100000) (hle : wv l2 ≤ wv l1) :
 Calls Tryz.prog 52 #[.slice a1 N c1, .slice a2 n2 c2] w (GaveR (wv l1 - wv l2) N w) := by
 have h21 : l2.length ≤ N := Nat.le_of_not_lt fun h => by have := wv_longer w1 t2 Z8; omega
 have HH := Lib.hid (And.intro h1 (And.intro h2 (And.intro e1 (And.intro e2 (And.intro w1 (And.intro w2 (And.intro hle h21)))))))
 have hmk := run_words N Z8 w
 have bN := Blk.new w 35 (List.replicate N z32)
 have HB := Lib.hid bN
 have HK := Lib.hid ((Keeps.refl (fun _ => False) w).alloc (.cells (List.replicate N z32).toArray 35))
 have HNI := Lib.hid (show (N : Int) ≤ 100001 by omega)
 clear h1 h2 e1 e2 w1 w2 t2 hn1 hle h21 bN
 go_enter Tryz.func52, Tryz.ntmps52
 go_wp2
 go_loopw [6, 7, 8] (fun c q x wr => ∃ (i cy : Nat) (o : List Nat), q = .int .i64 (i : Int) ∧ c = .int .u64 (cy : Int) ∧ i ≤ N ∧ cy ≤ 1 ∧ o.length = i ∧ Wd o ∧ wv o + wv (l2.take i) = wv (l1.take i) + 4294967296 ^ i * cy ∧ Blk wr w.heap.size 35 ((ws o) ++ List.replicate (N - i) z32) ∧ Keeps (fun _ => False) w wr) (fun _ q _ _ => N - (intOf q).toNat)
 case atStart => exact ⟨0, 0, [], rfl, rfl, Nat.zero_le _, Nat.zero_le _, rfl, fun x hx => by simp at hx, by simp [wv], HB.out, HK.out⟩
 case round =>
  obtain ⟨i, cy, o, rfl, rfl, hi, hcy, ho, hwd, hval, hb, hk⟩ := hrel
  obtain ⟨h1, h2, e1, e2, w1, w2, hle, h21⟩ := HH.out
  by_cases hlti : i < N
  ·obtain ⟨x, hx1', hx2, hx3, hx4⟩ := word_at l1 w1 i
   obtain ⟨y, hy1', hy2, hy3, hy4⟩ := word_at l2 w2 i
   have ch := hb.cell i
   rw [show N - i = N - (i + 1) + 1 by omega, ← ho, ws_at, ho] at ch
   have fh := hb.frozen i
   have hltI : (i : Int) < (N : Int) := by omega
   have hi0 : (0 : Int) ≤ (i : Int) := by omega
   obtain ⟨v, hv⟩ := ZBF ((4294967296 + x - cy - y) % 4294967296)
   obtain ⟨q, hq⟩ := ZBF ((4294967296 + x - cy - y) / 4294967296)
   obtain ⟨u, hu⟩ := ZBF (1 - q)
   have hu1 : u ≤ 1 := by clear hval hx2 hy2; omega
   have hvv : v + y + cy = x + 4294967296 * u := by clear hval hx2 hy2; omega
   have hstep := less_step ho hval hx2 hy2 hvv
   have hvb : v < 4294967296 := by rw [hv]; exact Nat.mod_lt _ ZBO
   have hwd2 : Wd (o ++ [v]) := hwd.app (fun z hz => by simp only [List.mem_singleton] at hz; rw [hz]; exact hvb)
   have hrow := row_next hk (Nat.le_refl _) hb ho hlti v
   have HR := Lib.hid (And.intro (show i + 1 ≤ N from hlti) (And.intro hu1 (And.intro (show (o ++ [v]).length = i + 1 by simp [ho]) (And.intro hwd2 (And.intro hstep hrow)))))
   clear hstep hwd2 hu1 hrow hx2 hy2 hb hval hwd hi hvb hvv hle h21
   have hxb : x < 4294967296 := hx1'
   have hyb : y < 4294967296 := hy1'
   have hx := hx3 Z8
   obtain ⟨b1, rfl, g1⟩ := (h1.kd hk).at_ hx
   have p1 := wrap_at (s := x) Z8
   have q1 : IntKind.u64.wrap (4294967296 + (x : Int)) = 4294967296 + (x : Int) := IntWalk.u64_in _ Z8
   have q2 : IntKind.u64.wrap (4294967296 + (x : Int) - (cy : Int)) = 4294967296 + (x : Int) - (cy : Int) := IntWalk.u64_in _ Z8
   clear hx hx3 hx4
   by_cases hi2 : i < n2
   ·have hy := hy3 Z8
    obtain ⟨b2, rfl, g2⟩ := (h2.kd hk).at_ hy
    have hjI : (i : Int) < (n2 : Int) := by omega
    have p2 := wrap_at (s := y) Z8
    have q3 : IntKind.u64.wrap (4294967296 + (x : Int) - (cy : Int) - (y : Int)) = 4294967296 + (x : Int) - (cy : Int) - (y : Int) := IntWalk.u64_in _ Z8
    clear hy hy3 hy4 hi2
    (have z0 : (0 : Int) ≤ 4294967296 + (x : Int) - (cy : Int) - (y : Int) ∧ 4294967296 + (x : Int) - (cy : Int) - (y : Int) ≤ 18446744073709551615 := Z8; have z3 : (4294967296 + (x : Int) - (cy : Int) - (y : Int)) % 4294967296 = (v : Int) := Z8; have z1 := low32 z0 z3; have z4 : (4294967296 + (x : Int) - (cy : Int) - (y : Int)) / 4294967296 = (q : Int) := Z8; have z2 := high32 z0 z4; have z5 := wrap_at (s := q) Z8; have z6 : IntKind.u64.wrap (1 - (q : Int)) = (u : Int) := (by rw [IntWalk.u64_in _ Z8]; omega); have wi : wrap64 ((i : Int) + 1) = (i : Int) + 1 := ZAp; clear hv hq hu hk h1 h2 e1 e2 w1 w2 hlti ho hcy hxb hyb z0 hx1' hy1'; go_wp2; go_roundw; (case rel => exact ⟨i + 1, u, o ++ [v], by rw [wi]; rfl, rfl, HR.out.1, HR.out.2.1, HR.out.2.2.1, HR.out.2.2.2.1, HR.out.2.2.2.2.1, HR.out.2.2.2.2.2.2, HR.out.2.2.2.2.2.1⟩); (case measure => rw [wi]; exact meas HR.out.1))
   ·have hy := hy4 Z8
    subst hy
    have hjI : ¬ (i : Int) < (n2 : Int) := by omega
    clear hy3 hy4 hi2
    (have z0 : (0 : Int) ≤ 4294967296 + (x : Int) - (cy : Int) ∧ 4294967296 + (x : Int) - (cy : Int) ≤ 18446744073709551615 := Z8; have z3 : (4294967296 + (x : Int) - (cy : Int)) % 4294967296 = (v : Int) := Z8; have z1 := low32 z0 z3; have z4 : (4294967296 + (x : Int) - (cy : Int)) / 4294967296 = (q : Int) := Z8; have z2 := high32 z0 z4; have z5 := wrap_at (s := q) Z8; have z6 : IntKind.u64.wrap (1 - (q : Int)) = (u : Int) := (by rw [IntWalk.u64_in _ Z8]; omega); have wi : wrap64 ((i : Int) + 1) = (i : Int) + 1 := ZAp; clear hv hq hu hk h1 h2 e1 e2 w1 w2 hlti ho hcy hxb hyb z0 hx1' hy1'; go_wp2; go_roundw; (case rel => exact ⟨i + 1, u, o ++ [v], by rw [wi]; rfl, rfl, HR.out.1, HR.out.2.1, HR.out.2.2.1, HR.out.2.2.2.1, HR.out.2.2.2.2.1, HR.out.2.2.2.2.2.2, HR.out.2.2.2.2.2.1⟩); (case measure => rw [wi]; exact meas HR.out.1))
  ·obtain rfl : i = N := Nat.le_antisymm hi (Nat.le_of_not_lt hlti)
   have hl : wv o = wv l1 - wv l2 := less_end e1.symm h21 ho hwd hle hval
   have hb2 : Blk wr w.heap.size 35 (ws o) := by simpa using hb
   have HE := Lib.hid (And.intro hl (And.intro hk (And.intro (wr_ws hb2 (Nat.le_of_eq ho)) (And.intro ho hwd))))
   clear hl hb2 hb hk ho hwd hval h1 h2 e1 e2 w1 w2 hle h21
   go_wp2
   go_ret
   exact ⟨_, o, rfl, HE.out.2.1, HE.out.2.2.1, HE.out.2.2.2.1.symm, HE.out.2.2.2.2, HE.out.1⟩
end Bg
open Go.RowKit
namespace Bg
open Mem
theorem box2_kd {w : World} {m1 m2 : Bool} {a1 a2 : Option Addr} {n1 c1 n2 c2 : Nat} {W : World} (hk : Keeps (fun _ => False) ((w.alloc (.cells #[.bool m1, .slice a1 n1 c1] 101)).alloc (.cells #[.bool m2, .slice a2 n2 c2] 101)) W) : (∀ i : Nat, W.cell? ⟨w.heap.size, i, none⟩ = ([.bool m1, .slice a1 n1 c1] : List Value)[i]?) ∧ (∀ i : Nat, W.cell? ⟨w.heap.size + 1, i, none⟩ = ([.bool m2, .slice a2 n2 c2] : List Value)[i]?) := by
 have h1 := ((Blk.new w 101 [.bool m1, .slice a1 n1 c1]).alloc (.cells #[.bool m2, .slice a2 n2 c2] 101)).keeps hk (fun h => h)
 have h2 := (Blk.new (w.alloc (.cells #[.bool m1, .slice a1 n1 c1] 101)) 101 [.bool m2, .slice a2 n2 c2]).keeps hk (fun h => h)
 simp only [World.size_alloc] at h2
 exact ⟨h1.cell, h2.cell⟩
theorem box3_kd {w : World} {m1 m2 : Bool} {a1 a2 : Option Addr} {n1 c1 n2 c2 : Nat} {W : World} (hk : Keeps (fun _ => False) (((w.alloc (.cells #[.bool m1, .slice a1 n1 c1] 101)).alloc (.cells #[.bool m2, .slice a2 n2 c2] 101)).alloc (.cells #[.bool false, .slice none 0 0] 101)) W) : Blk W (w.heap.size + 2) 101 [.bool false, .slice none 0 0] := by
 have h2 := (Blk.new ((w.alloc (.cells #[.bool m1, .slice a1 n1 c1] 101)).alloc (.cells #[.bool m2, .slice a2 n2 c2] 101)) 101 [.bool false, .slice none 0 0]).keeps hk (fun h => h)
 simpa only [World.size_alloc] using h2
theorem plus_one (m1 m2 : Bool) (a1 a2 : Option Addr) (n1 n2 c1 c2 : Nat) (l1 l2 : List Nat) (x y : Int) (w : World) (hm : m1 = m2) (r1 : Wr w a1 c1 l1) (e1 : n1 = l1.length) (h1 : Who m1 l1 x) (r2 : Wr w a2 c2 l2) (e2 : n2 = l2.length) (h2 : Who m2 l2 y) (hn1 : (n1 : Int) ≤ 100000) (hn2 : (n2 : Int) ≤ 100000) :
 Calls Tryz.prog 46 #[.agg #[.bool m1, .slice a1 n1 c1], .agg #[.bool m2, .slice a2 n2 c2]] w (GaveW (x + y) (max n1 n2 + 1) w) := by
 have hxy : x + y = if m1 = true then -((wv l1 + wv l2 : Nat) : Int) else ((wv l1 + wv l2 : Nat) : Int) := by
  have q1 := h1.sgn; have q2 := h2.sgn; have q3 := h1.abs; have q4 := h2.abs
  rw [← hm] at q2
  cases m1
  ·have : ¬ x < 0 := by simpa using q1
   have : ¬ y < 0 := by simpa using q2
   simp; omega
  ·have : x < 0 := by simpa using q1
   have : y < 0 := by simpa using q2
   simp; omega
 have HS := Lib.hid (fun W (hk : Keeps (fun _ => False) w W) => sum_t a1 a2 n1 n2 c1 c2 (max n1 n2 + 1) l1 l2 W (r1.kd hk) (r2.kd hk) e1 e2 h1.wd h2.wd hn1 hn2 rfl)
 have HM := Lib.hid (fun g l (W : World) (hr : Wr W (some ⟨g, 0, none⟩) (max n1 n2 + 1) l) (hn : max n1 n2 + 1 = l.length) (hd : Wd l) (hv : wv l = wv l1 + wv l2) => made_w m1 (some ⟨g, 0, none⟩) (max n1 n2 + 1) (max n1 n2 + 1) l W hr hn hd (max n1 n2 + 1) Z8 Z8 (x + y) (by rw [hv]; exact hxy))
 obtain ⟨N, hN⟩ := ZBF (max n1 n2 + 1)
 rw [← hN] at HS HM ⊢
 have hme : (m1 == m2) = true := by simp [hm]
 have HQ := Lib.hid (fun W (hk : Keeps (fun _ => False) ((w.alloc (.cells #[.bool m1, .slice a1 n1 c1] 101)).alloc (.cells #[.bool m2, .slice a2 n2 c2] 101)) W) => box2_kd (w := w) (a1 := a1) (a2 := a2) (n1 := n1) (n2 := n2) (c1 := c1) (c2 := c2) hk); have HR := Lib.hid (fun W (hk : Keeps (fun _ => False) (((w.alloc (.cells #[.bool m1, .slice a1 n1 c1] 101)).alloc (.cells #[.bool m2, .slice a2 n2 c2] 101)).alloc (.cells #[.bool false, .slice none 0 0] 101)) W) => box3_kd (w := w) (a1 := a1) (a2 := a2) (n1 := n1) (n2 := n2) (c1 := c1) (c2 := c2) hk)
 clear r1 r2 e1 e2 h1 h2 hn1 hn2 hN hxy hm
 go_enter Tryz.func46, Tryz.ntmps46
 have cq := (HQ.out (((w.alloc (.cells #[.bool m1, .slice a1 n1 c1] 101)).alloc (.cells #[.bool m2, .slice a2 n2 c2] 101)).alloc (.cells #[.bool false, .slice none 0 0] 101)) Z9).1
 have cp := (HQ.out (((w.alloc (.cells #[.bool m1, .slice a1 n1 c1] 101)).alloc (.cells #[.bool m2, .slice a2 n2 c2] 101)).alloc (.cells #[.bool false, .slice none 0 0] 101)) Z9).2
 go_wp2
 clear cq cp
 go_region_held3 (fun W => (∀ i : Nat, W.cell? ⟨w.heap.size, i, none⟩ = ([.bool m1, .slice a1 n1 c1] : List Value)[i]?) ∧ (∀ i : Nat, W.cell? ⟨w.heap.size + 1, i, none⟩ = ([.bool m2, .slice a2 n2 c2] : List Value)[i]?)) (first | with_reducible assumption | exact HQ.out _ Z9) (first
  | (go_at_call 50; (with_reducible refine (HS.out _ Z9).mono ?_); rintro e w5 ⟨g5, l5, rfl, k5, r5, d5, e5, v5⟩; have HK5 := Lib.hid (show Keeps (fun _ => False) (((w.alloc (.cells #[.bool m1, .slice a1 n1 c1] 101)).alloc (.cells #[.bool m2, .slice a2 n2 c2] 101)).alloc (.cells #[.bool false, .slice none 0 0] 101)) w5 from Keeps.trans Z9 k5); have HJ5 := Lib.hid (show Keeps (fun _ => False) ((w.alloc (.cells #[.bool m1, .slice a1 n1 c1] 101)).alloc (.cells #[.bool m2, .slice a2 n2 c2] 101)) w5 from Keeps.trans Z9 HK5.out); have HL5 := Lib.hid (And.intro r5 (And.intro d5 (And.intro e5 v5))); clear r5 d5 e5 v5 k5)
  | (go_at_call 49; (with_reducible refine (HM.out g5 l5 _ (HL5.out.1.kd Z9) HL5.out.2.1 HL5.out.2.2.1 HL5.out.2.2.2).mono ?_); rintro e w6 ⟨m6, a6, n6, c6, rfl, k6, z6⟩; have HK6 := Lib.hid (show Keeps (fun _ => False) (((w.alloc (.cells #[.bool m1, .slice a1 n1 c1] 101)).alloc (.cells #[.bool m2, .slice a2 n2 c2] 101)).alloc (.cells #[.bool false, .slice none 0 0] 101)) w6 from Keeps.trans Z9 k6); have HJ6 := Lib.hid (show Keeps (fun _ => False) ((w.alloc (.cells #[.bool m1, .slice a1 n1 c1] 101)).alloc (.cells #[.bool m2, .slice a2 n2 c2] 101)) w6 from Keeps.trans Z9 HK6.out); have HZ := Lib.hid z6; have hg := HR.out w6 HK6.out; have cg := hg.cell; have fg := hg.frozen; clear k6 z6 hg))
 go_wp2; exact bodyPost_ret (results_w rfl _ _ (w.heap.size + 2) [.bool false, .slice none 0 0] _ _ _ _ rfl rfl (HR.out _ HK6.out)) rfl (gave_store ((((Keeps.refl _ w).alloc _).alloc _).alloc _) (HR.out _ (Keeps.refl _ _)) Z8 HK6.out HZ.out)
theorem plus_ge (m1 m2 : Bool) (a1 a2 : Option Addr) (n1 n2 c1 c2 : Nat) (l1 l2 : List Nat) (x y : Int) (w : World) (hm : m1 ≠ m2) (r1 : Wr w a1 c1 l1) (e1 : n1 = l1.length) (h1 : Who m1 l1 x) (r2 : Wr w a2 c2 l2) (e2 : n2 = l2.length) (h2 : Who m2 l2 y) (hn1 : (n1 : Int) ≤ 100000) (hn2 : (n2 : Int) ≤ 100000) (hle : wv l2 ≤ wv l1) :
 Calls Tryz.prog 46 #[.agg #[.bool m1, .slice a1 n1 c1], .agg #[.bool m2, .slice a2 n2 c2]] w (GaveW (x + y) n1 w) := by
 have hxy : x + y = if m1 = true then -(((wv l1 - wv l2) : Nat) : Int) else (((wv l1 - wv l2) : Nat) : Int) := by
  exact Zv
 have HW := Lib.hid (fun W (hk : Keeps (fun _ => False) w W) => low_t a1 a2 n1 n2 c1 c2 l1 l2 W (r1.kd hk) (r2.kd hk) e1 e2 h1.wd h2.wd h1.top h2.top Z8)
 have HLE := Lib.hid hle
 have HS := Lib.hid (fun W (hk : Keeps (fun _ => False) w W) => less_t a1 a2 n1 n2 c1 c2 l1 l2 W (r1.kd hk) (r2.kd hk) e1 e2 h1.wd h2.wd h2.top hn1 hle)
 have HM := Lib.hid (fun g l (W : World) (hr : Wr W (some ⟨g, 0, none⟩) n1 l) (hn : n1 = l.length) (hd : Wd l) (hv : wv l = (wv l1 - wv l2)) => made_w m1 (some ⟨g, 0, none⟩) n1 n1 l W hr hn hd n1 Z8 Z8 (x + y) (by rw [hv]; exact hxy))
 have hme : (m1 == m2) = false := by simp [hm]
 have HQ := Lib.hid (fun W (hk : Keeps (fun _ => False) ((w.alloc (.cells #[.bool m1, .slice a1 n1 c1] 101)).alloc (.cells #[.bool m2, .slice a2 n2 c2] 101)) W) => box2_kd (w := w) (a1 := a1) (a2 := a2) (n1 := n1) (n2 := n2) (c1 := c1) (c2 := c2) hk); have HR := Lib.hid (fun W (hk : Keeps (fun _ => False) (((w.alloc (.cells #[.bool m1, .slice a1 n1 c1] 101)).alloc (.cells #[.bool m2, .slice a2 n2 c2] 101)).alloc (.cells #[.bool false, .slice none 0 0] 101)) W) => box3_kd (w := w) (a1 := a1) (a2 := a2) (n1 := n1) (n2 := n2) (c1 := c1) (c2 := c2) hk)
 clear r1 r2 e1 e2 h1 h2 hn1 hn2 hxy hm hle
 go_enter Tryz.func46, Tryz.ntmps46
 have cq := (HQ.out (((w.alloc (.cells #[.bool m1, .slice a1 n1 c1] 101)).alloc (.cells #[.bool m2, .slice a2 n2 c2] 101)).alloc (.cells #[.bool false, .slice none 0 0] 101)) Z9).1
 have cp := (HQ.out (((w.alloc (.cells #[.bool m1, .slice a1 n1 c1] 101)).alloc (.cells #[.bool m2, .slice a2 n2 c2] 101)).alloc (.cells #[.bool false, .slice none 0 0] 101)) Z9).2
 go_wp2_with (go_at_call 51; (with_reducible refine (HW.out _ Z9).mono ?_); rintro e w4 ⟨z4, rfl, hz4, k4⟩; clear cq cp; have hz0 : z4 ≥ 0 := (by have := HLE.out; omega); clear hz4; have HK4 := Lib.hid (show Keeps (fun _ => False) (((w.alloc (.cells #[.bool m1, .slice a1 n1 c1] 101)).alloc (.cells #[.bool m2, .slice a2 n2 c2] 101)).alloc (.cells #[.bool false, .slice none 0 0] 101)) w4 from Keeps.trans Z9 k4); have HJ4 := Lib.hid (show Keeps (fun _ => False) ((w.alloc (.cells #[.bool m1, .slice a1 n1 c1] 101)).alloc (.cells #[.bool m2, .slice a2 n2 c2] 101)) w4 from Keeps.trans Z9 HK4.out); have cq := (HQ.out _ HJ4.out).1; have cp := (HQ.out _ HJ4.out).2; clear k4)
 clear cq cp
 go_region_held3 (fun W => (∀ i : Nat, W.cell? ⟨w.heap.size, i, none⟩ = ([.bool m1, .slice a1 n1 c1] : List Value)[i]?) ∧ (∀ i : Nat, W.cell? ⟨w.heap.size + 1, i, none⟩ = ([.bool m2, .slice a2 n2 c2] : List Value)[i]?)) (first | with_reducible assumption | exact HQ.out _ Z9) (first
  | (go_at_call 52; (with_reducible refine (HS.out _ (by exact Keeps.trans (((((Keeps.refl (fun _ => False) w).alloc _).alloc _).alloc _)) Z9)).mono ?_); rintro e w5 ⟨g5, l5, rfl, k5, r5, d5, e5, v5⟩; have HK5 := Lib.hid (show Keeps (fun _ => False) (((w.alloc (.cells #[.bool m1, .slice a1 n1 c1] 101)).alloc (.cells #[.bool m2, .slice a2 n2 c2] 101)).alloc (.cells #[.bool false, .slice none 0 0] 101)) w5 from Keeps.trans Z9 k5); have HJ5 := Lib.hid (show Keeps (fun _ => False) ((w.alloc (.cells #[.bool m1, .slice a1 n1 c1] 101)).alloc (.cells #[.bool m2, .slice a2 n2 c2] 101)) w5 from Keeps.trans Z9 HK5.out); have HL5 := Lib.hid (And.intro r5 (And.intro d5 (And.intro e5 v5))); clear r5 d5 e5 v5 k5)
  | (go_at_call 49; (with_reducible refine (HM.out g5 l5 _ (HL5.out.1.kd Z9) HL5.out.2.1 HL5.out.2.2.1 HL5.out.2.2.2).mono ?_); rintro e w6 ⟨m6, a6, n6, c6, rfl, k6, z6⟩; have HK6 := Lib.hid (show Keeps (fun _ => False) (((w.alloc (.cells #[.bool m1, .slice a1 n1 c1] 101)).alloc (.cells #[.bool m2, .slice a2 n2 c2] 101)).alloc (.cells #[.bool false, .slice none 0 0] 101)) w6 from Keeps.trans Z9 k6); have HJ6 := Lib.hid (show Keeps (fun _ => False) ((w.alloc (.cells #[.bool m1, .slice a1 n1 c1] 101)).alloc (.cells #[.bool m2, .slice a2 n2 c2] 101)) w6 from Keeps.trans Z9 HK6.out); have HZ := Lib.hid z6; have hg := HR.out w6 HK6.out; have cg := hg.cell; have fg := hg.frozen; clear k6 z6 hg))
 go_wp2; exact bodyPost_ret (results_w rfl _ _ (w.heap.size + 2) [.bool false, .slice none 0 0] _ _ _ _ rfl rfl (HR.out _ HK6.out)) rfl (gave_store ((((Keeps.refl _ w).alloc _).alloc _).alloc _) (HR.out _ (Keeps.refl _ _)) Z8 HK6.out HZ.out)
theorem plus_lt (m1 m2 : Bool) (a1 a2 : Option Addr) (n1 n2 c1 c2 : Nat) (l1 l2 : List Nat) (x y : Int) (w : World) (hm : m1 ≠ m2) (r1 : Wr w a1 c1 l1) (e1 : n1 = l1.length) (h1 : Who m1 l1 x) (r2 : Wr w a2 c2 l2) (e2 : n2 = l2.length) (h2 : Who m2 l2 y) (hn1 : (n1 : Int) ≤ 100000) (hn2 : (n2 : Int) ≤ 100000) (hle : wv l1 < wv l2) :
 Calls Tryz.prog 46 #[.agg #[.bool m1, .slice a1 n1 c1], .agg #[.bool m2, .slice a2 n2 c2]] w (GaveW (x + y) n2 w) := by
 have hxy : x + y = if m2 = true then -(((wv l2 - wv l1) : Nat) : Int) else (((wv l2 - wv l1) : Nat) : Int) := by
  exact Zv
 have HW := Lib.hid (fun W (hk : Keeps (fun _ => False) w W) => low_t a1 a2 n1 n2 c1 c2 l1 l2 W (r1.kd hk) (r2.kd hk) e1 e2 h1.wd h2.wd h1.top h2.top Z8)
 have HLE := Lib.hid hle
 have HS := Lib.hid (fun W (hk : Keeps (fun _ => False) w W) => less_t a2 a1 n2 n1 c2 c1 l2 l1 W (r2.kd hk) (r1.kd hk) e2 e1 h2.wd h1.wd h1.top hn2 (Nat.le_of_lt hle))
 have HM := Lib.hid (fun g l (W : World) (hr : Wr W (some ⟨g, 0, none⟩) n2 l) (hn : n2 = l.length) (hd : Wd l) (hv : wv l = (wv l2 - wv l1)) => made_w m2 (some ⟨g, 0, none⟩) n2 n2 l W hr hn hd n2 Z8 Z8 (x + y) (by rw [hv]; exact hxy))
 have hme : (m1 == m2) = false := by simp [hm]
 have HQ := Lib.hid (fun W (hk : Keeps (fun _ => False) ((w.alloc (.cells #[.bool m1, .slice a1 n1 c1] 101)).alloc (.cells #[.bool m2, .slice a2 n2 c2] 101)) W) => box2_kd (w := w) (a1 := a1) (a2 := a2) (n1 := n1) (n2 := n2) (c1 := c1) (c2 := c2) hk); have HR := Lib.hid (fun W (hk : Keeps (fun _ => False) (((w.alloc (.cells #[.bool m1, .slice a1 n1 c1] 101)).alloc (.cells #[.bool m2, .slice a2 n2 c2] 101)).alloc (.cells #[.bool false, .slice none 0 0] 101)) W) => box3_kd (w := w) (a1 := a1) (a2 := a2) (n1 := n1) (n2 := n2) (c1 := c1) (c2 := c2) hk)
 clear r1 r2 e1 e2 h1 h2 hn1 hn2 hxy hm hle
 go_enter Tryz.func46, Tryz.ntmps46
 have cq := (HQ.out (((w.alloc (.cells #[.bool m1, .slice a1 n1 c1] 101)).alloc (.cells #[.bool m2, .slice a2 n2 c2] 101)).alloc (.cells #[.bool false, .slice none 0 0] 101)) Z9).1
 have cp := (HQ.out (((w.alloc (.cells #[.bool m1, .slice a1 n1 c1] 101)).alloc (.cells #[.bool m2, .slice a2 n2 c2] 101)).alloc (.cells #[.bool false, .slice none 0 0] 101)) Z9).2
 go_wp2_with (go_at_call 51; (with_reducible refine (HW.out _ Z9).mono ?_); rintro e w4 ⟨z4, rfl, hz4, k4⟩; clear cq cp; have hz0 : ¬ z4 ≥ 0 := (by have := HLE.out; omega); clear hz4; have HK4 := Lib.hid (show Keeps (fun _ => False) (((w.alloc (.cells #[.bool m1, .slice a1 n1 c1] 101)).alloc (.cells #[.bool m2, .slice a2 n2 c2] 101)).alloc (.cells #[.bool false, .slice none 0 0] 101)) w4 from Keeps.trans Z9 k4); have HJ4 := Lib.hid (show Keeps (fun _ => False) ((w.alloc (.cells #[.bool m1, .slice a1 n1 c1] 101)).alloc (.cells #[.bool m2, .slice a2 n2 c2] 101)) w4 from Keeps.trans Z9 HK4.out); have cq := (HQ.out _ HJ4.out).1; have cp := (HQ.out _ HJ4.out).2; clear k4)
 clear cq cp
 go_region_held3 (fun W => (∀ i : Nat, W.cell? ⟨w.heap.size, i, none⟩ = ([.bool m1, .slice a1 n1 c1] : List Value)[i]?) ∧ (∀ i : Nat, W.cell? ⟨w.heap.size + 1, i, none⟩ = ([.bool m2, .slice a2 n2 c2] : List Value)[i]?)) (first | with_reducible assumption | exact HQ.out _ Z9) (first
  | (go_at_call 52; (with_reducible refine (HS.out _ (by exact Keeps.trans (((((Keeps.refl (fun _ => False) w).alloc _).alloc _).alloc _)) Z9)).mono ?_); rintro e w5 ⟨g5, l5, rfl, k5, r5, d5, e5, v5⟩; have HK5 := Lib.hid (show Keeps (fun _ => False) (((w.alloc (.cells #[.bool m1, .slice a1 n1 c1] 101)).alloc (.cells #[.bool m2, .slice a2 n2 c2] 101)).alloc (.cells #[.bool false, .slice none 0 0] 101)) w5 from Keeps.trans Z9 k5); have HJ5 := Lib.hid (show Keeps (fun _ => False) ((w.alloc (.cells #[.bool m1, .slice a1 n1 c1] 101)).alloc (.cells #[.bool m2, .slice a2 n2 c2] 101)) w5 from Keeps.trans Z9 HK5.out); have HL5 := Lib.hid (And.intro r5 (And.intro d5 (And.intro e5 v5))); clear r5 d5 e5 v5 k5)
  | (go_at_call 49; (with_reducible refine (HM.out g5 l5 _ (HL5.out.1.kd Z9) HL5.out.2.1 HL5.out.2.2.1 HL5.out.2.2.2).mono ?_); rintro e w6 ⟨m6, a6, n6, c6, rfl, k6, z6⟩; have HK6 := Lib.hid (show Keeps (fun _ => False) (((w.alloc (.cells #[.bool m1, .slice a1 n1 c1] 101)).alloc (.cells #[.bool m2, .slice a2 n2 c2] 101)).alloc (.cells #[.bool false, .slice none 0 0] 101)) w6 from Keeps.trans Z9 k6); have HJ6 := Lib.hid (show Keeps (fun _ => False) ((w.alloc (.cells #[.bool m1, .slice a1 n1 c1] 101)).alloc (.cells #[.bool m2, .slice a2 n2 c2] 101)) w6 from Keeps.trans Z9 HK6.out); have HZ := Lib.hid z6; have hg := HR.out w6 HK6.out; have cg := hg.cell; have fg := hg.frozen; clear k6 z6 hg))
 go_wp2; exact bodyPost_ret (results_w rfl _ _ (w.heap.size + 2) [.bool false, .slice none 0 0] _ _ _ _ rfl rfl (HR.out _ HK6.out)) rfl (gave_store ((((Keeps.refl _ w).alloc _).alloc _).alloc _) (HR.out _ (Keeps.refl _ _)) Z8 HK6.out HZ.out)
theorem plus_t (m1 m2 : Bool) (a1 a2 : Option Addr) (n1 n2 c1 c2 : Nat) (x y : Int) (k1 k2 : Nat) (w : World) (h1 : Wz w m1 a1 n1 c1 x k1) (h2 : Wz w m2 a2 n2 c2 y k2) (hk : k1 + k2 ≤ 100000) :
 Calls Tryz.prog 46 #[.agg #[.bool m1, .slice a1 n1 c1], .agg #[.bool m2, .slice a2 n2 c2]] w (GaveW (x + y) (k1 + k2 + 1) w) := by
 obtain ⟨⟨l1, e1, r1, w1⟩, b1⟩ := h1
 obtain ⟨⟨l2, e2, r2, w2⟩, b2⟩ := h2
 have fin : ∀ k e w', k ≤ k1 + k2 + 1 → GaveW (x + y) k w e w' → GaveW (x + y) (k1 + k2 + 1) w e w' := fun k e w' hk ⟨neg, a, n, c, q1, q2, q3⟩ => ⟨neg, a, n, c, q1, q2, q3.more hk⟩
 by_cases hm : m1 = m2
 ·exact (plus_one m1 m2 a1 a2 n1 n2 c1 c2 l1 l2 x y w hm r1 e1 w1 r2 e2 w2 Z8 Z8).mono (fun e w' h => fin _ e w' Z8 h)
 ·rcases Nat.lt_or_ge (wv l1) (wv l2) with h | h
  ·exact (plus_lt m1 m2 a1 a2 n1 n2 c1 c2 l1 l2 x y w hm r1 e1 w1 r2 e2 w2 Z8 Z8 h).mono (fun e w' h => fin _ e w' Z8 h)
  ·exact (plus_ge m1 m2 a1 a2 n1 n2 c1 c2 l1 l2 x y w hm r1 e1 w1 r2 e2 w2 Z8 Z8 h).mono (fun e w' h => fin _ e w' Z8 h)
end Bg
end Go.Proofs.YtdbpfbokfmpgcaaGreat
