/-
BgA: plain: whole numbers of any length, by their words; no program in sight.
FpA: whole numbers of any length in memory: made, of, other, sign.
-/
import Derived.Test.YtdbpfbokfmpgcaaGreatZaaMemIterTreeAHeldGrowIter
set_option linter.unusedVariables false
set_option linter.unusedSimpArgs false
set_option linter.ambiguousOpen false
set_option maxHeartbeats 16000000
attribute [local go_sem] Go.Oper.semAt_some
namespace Go.Proofs.YtdbpfbokfmpgcaaGreat
theorem ZBH {p : Prop} (h : p := by (repeat (first | exact Keeps.refl _ _ | refine Keeps.alloc ?_ _ | refine Keeps.drew ?_))) : p := h
theorem ZBL {p : Prop} (h : p := by kernel_rfl) : p := h
theorem ZBO {p : Prop} (h : p := by decide) : p := h
theorem ZAT {p : Prop} (h : p := by simp only at h; omega) : p := h
theorem Zh {p : Prop} (h : p := by
 go_enter Tryz.func45, Tryz.ntmps45
 go_wp2_with ((with_reducible refine HM.out.mono ?_); rintro e w4 ⟨neg, a, n, c, rfl, k4, hz4⟩; have HZ := Lib.hid (And.intro k4 hz4); have hg := (HB.out.alloc _).keeps k4 (fun h => h); have cg := hg.cell; have fg := hg.frozen; have HG := Lib.hid hg; clear k4 hz4 hg)
 refine bodyPost_ret (results_w rfl _ _ w.heap.size [.bool false, .slice none 0 0] _ _ _ _ rfl rfl HG.out) rfl (gave_store (((Keeps.refl _ w).alloc _).alloc _) (HB.out.alloc _) (Nat.le_refl _) HZ.out.1 HZ.out.2)) : p := h
namespace Bg
def wv : List Nat → Nat
 | [] => 0
 | x :: l => x + 4294967296 * wv l
def Wd (l : List Nat) : Prop := ∀ x ∈ l, x < 4294967296
def Top (l : List Nat) : Prop := l.getLast? ≠ some 0
theorem wv_lt : ∀ {l : List Nat}, Wd l → wv l < 4294967296 ^ l.length
 | [], _ => by simp [wv]
 | x :: l, h => by
  have h1 := h x ZA7
  have h2 := wv_lt (l := l) (fun y hy => h y (by simp [hy]))
  rw [List.length_cons, Nat.pow_succ, wv]
  have := Nat.mul_le_mul_left 4294967296 (show wv l + 1 ≤ 4294967296 ^ l.length by omega)
  rw [Nat.mul_comm (4294967296 ^ l.length)]
  omega
theorem wv_app (b : List Nat) : ∀ a : List Nat, wv (a ++ b) = wv a + 4294967296 ^ a.length * wv b
 | [] => by simp [wv]
 | x :: a => by
  rw [List.cons_append, wv, wv, wv_app b a, List.length_cons, Nat.pow_succ, Nat.mul_add]
  rw [Nat.mul_comm (4294967296 ^ a.length) 4294967296, Nat.mul_assoc]; omega
theorem wv_snoc (a : List Nat) (x : Nat) : wv (a ++ [x]) = wv a + 4294967296 ^ a.length * x := by rw [wv_app]; simp [wv]
theorem wv_take {l : List Nat} {i x : Nat} (h : l[i]? = some x) : wv (l.take (i + 1)) = wv (l.take i) + 4294967296 ^ i * x := by
 have hi := (List.getElem?_eq_some_iff.1 h).1
 have e : l.take (i + 1) = l.take i ++ [x] := by
  rw [← List.take_append_getElem hi]
  congr 2
  have := (List.getElem?_eq_some_iff.1 h).2
  rw [this]
 rw [e, wv_snoc, List.length_take, Nat.min_eq_left Z8]
theorem Wd.take {l : List Nat} (h : Wd l) (n : Nat) : Wd (l.take n) := fun x hx => h x (List.mem_of_mem_take hx)
theorem Wd.app {a b : List Nat} (h : Wd a) (h' : Wd b) : Wd (a ++ b) := fun x hx => (List.mem_append.1 hx).elim (h x) (h' x)
theorem wv_drop0 {l : List Nat} {n : Nat} (h : l[n]? = some 0) : wv (l.take (n + 1)) = wv (l.take n) := by rw [wv_take h]; simp
theorem top_take {l : List Nat} {n x : Nat} (h : l[n]? = some x) (hx : x ≠ 0) : Top (l.take (n + 1)) := by
 have hi := (List.getElem?_eq_some_iff.1 h).1
 unfold Top
 rw [List.getLast?_eq_getElem?, List.length_take, Nat.min_eq_left Z8, Nat.add_sub_cancel, List.getElem?_take_of_lt Z8, h]
 intro e
 exact hx (Option.some.inj e)
theorem top_pos {l : List Nat} (h : Top l) (hl : l ≠ []) : 4294967296 ^ (l.length - 1) ≤ wv l := by
 rcases List.eq_nil_or_concat l with rfl | ⟨a, x, rfl⟩
 ·exact absurd rfl hl
 ·have hx : x ≠ 0 := by
   rintro rfl
   exact h ZA7
  rw [List.concat_eq_append, wv_snoc, List.length_append, List.length_singleton, Nat.add_sub_cancel]
  have := Nat.mul_le_mul_left (4294967296 ^ a.length) (show 1 ≤ x by omega)
  omega
theorem wv_pos {l : List Nat} (h : Top l) : wv l = 0 ↔ l = [] := by
 constructor
 ·intro h0
  refine Classical.byContradiction fun hl => ?_
  have := top_pos h hl
  have : 0 < 4294967296 ^ (l.length - 1) := Nat.pow_pos ZBO
  omega
 ·rintro rfl; rfl
theorem wv_longer {a b : List Nat} (ha : Wd a) (hb : Top b) (h : a.length < b.length) : wv a < wv b := by
 have h1 := wv_lt ha
 have h2 := top_pos hb (fun e => by rw [e] at h; simp at h)
 have := Nat.pow_le_pow_right (n := 4294967296) ZBO (show a.length ≤ b.length - 1 by omega)
 omega
theorem wv_less {a b : List Nat} {i x y : Nat} (hl : a.length = b.length) (ha : Wd a) (hx : a[i]? = some x) (hy : b[i]? = some y) (hxy : x < y) (hd : a.drop (i + 1) = b.drop (i + 1)) : wv a < wv b := by
 have hi := (List.getElem?_eq_some_iff.1 hx).1
 have e1 : wv a = wv (a.take (i + 1)) + 4294967296 ^ (i + 1) * wv (a.drop (i + 1)) := by
  conv => lhs; rw [← List.take_append_drop (i + 1) a]
  rw [wv_app, List.length_take, Nat.min_eq_left Z8]
 have e2 : wv b = wv (b.take (i + 1)) + 4294967296 ^ (i + 1) * wv (b.drop (i + 1)) := by
  conv => lhs; rw [← List.take_append_drop (i + 1) b]
  rw [wv_app, List.length_take, Nat.min_eq_left Z8]
 rw [e1, e2, hd, wv_take hx, wv_take hy]
 have h1 := wv_lt (ha.take i)
 rw [List.length_take, Nat.min_eq_left Z8] at h1
 have := Nat.mul_le_mul_left (4294967296 ^ i) (show x + 1 ≤ y by omega)
 rw [Nat.mul_add] at this
 omega
/-! numbers with a sign -/
def wz (neg : Bool) (l : List Nat) : Int := if neg then -(wv l : Int) else (wv l : Int)
structure Who (neg : Bool) (l : List Nat) (z : Int) : Prop where
 wd : Wd l
 top : Top l
 sgn : neg = decide (z < 0)
 abs : wv l = z.natAbs
theorem Who.nil {neg : Bool} {l : List Nat} {z : Int} (h : Who neg l z) : l = [] ↔ z = 0 := by
 rw [← wv_pos h.top, h.abs]; omega
theorem Who.made {neg : Bool} {l : List Nat} {n : Nat} {z : Int} (hw : Wd l) (ht : Top (l.take n)) (hv : wv (l.take n) = wv l) (hz : z = if neg then -(wv l : Int) else (wv l : Int)) : Who (neg && decide (0 < (l.take n).length)) (l.take n) z := by
 refine ⟨hw.take n, ht, ?_, by rw [hv, hz]; cases neg <;> simp⟩
 have h0 := wv_pos ht
 have h1 : (0 < (l.take n).length) ↔ wv l ≠ 0 := by
  rw [← hv]
  constructor
  ·intro h e; rw [h0.1 e] at h; simp at h
  ·intro h
   refine Nat.pos_of_ne_zero fun e => h ?_
   exact h0.2 (List.length_eq_zero_iff.1 e)
 have h2 : decide (0 < (l.take n).length) = decide (wv l ≠ 0) := decide_eq_decide.2 h1
 rw [h2, hz]
 cases neg
 ·have h3 : ¬ ((wv l : Int) < 0) := by omega
  simp [h3]
 ·by_cases h4 : wv l = 0
  ·simp [h4]
  ·have h3 : -(wv l : Int) < 0 := by omega
   simp [h4, h3]; omega
/-! sums and differences, place by place -/
theorem sum_step {a b o : List Nat} {i x y c : Nat} (hlen : o.length = i) (h : wv o + 4294967296 ^ i * c = wv (a.take i) + wv (b.take i)) (hx : wv (a.take (i + 1)) = wv (a.take i) + 4294967296 ^ i * x) (hy : wv (b.take (i + 1)) = wv (b.take i) + 4294967296 ^ i * y) :
 wv (o ++ [(c + x + y) % 4294967296]) + 4294967296 ^ (i + 1) * ((c + x + y) / 4294967296) = wv (a.take (i + 1)) + wv (b.take (i + 1)) := by
 rw [wv_snoc, hlen, hx, hy, Nat.pow_succ]
 have h1 := Nat.mod_add_div (c + x + y) 4294967296
 have h2 : 4294967296 ^ i * ((c + x + y) % 4294967296) + 4294967296 ^ i * 4294967296 * ((c + x + y) / 4294967296) = 4294967296 ^ i * (c + x + y) := by
  rw [Nat.mul_assoc, ← Nat.mul_add, h1]
 rw [Nat.mul_add, Nat.mul_add] at h2
 omega
theorem take_over {a : List Nat} {i : Nat} (h : a.length ≤ i) : wv (a.take (i + 1)) = wv (a.take i) + 4294967296 ^ i * 0 := by
 rw [List.take_of_length_le Z8, List.take_of_length_le Z8]; simp
end Bg
open Go.RowKit
namespace Bg
open Mem
def Wr (w : World) (a : Option Addr) (c : Nat) (xs : List Nat) : Prop :=
 xs.length ≤ c ∧ (xs = [] ∨ ∃ (b : Nat) (cs : List Value), a = some ⟨b, 0, none⟩ ∧ Blk w b 35 cs ∧ ∀ (i x : Nat), xs[i]? = some x → cs[i]? = some (.int .u32 ((x : Nat) : Int)))
section
variable {w w' : World} {a : Option Addr} {c : Nat} {xs : List Nat}
theorem Wr.at_ (h : Wr w a c xs) {i x : Nat} (hx : xs[i]? = some x) : ∃ b, a = some ⟨b, 0, none⟩ ∧ w.cell? ⟨b, i, none⟩ = some (.int .u32 ((x : Nat) : Int)) := by
 rcases h.2 with rfl | ⟨b, cs, rfl, hb, hc⟩
 ·simp at hx
 ·exact ⟨b, rfl, by rw [hb.cell, hc i x hx]⟩
theorem Wr.keeps {S : Nat → Prop} (h : Wr w a c xs) (hk : Keeps S w w') (hd : ∀ b, a = some ⟨b, 0, none⟩ → ¬ S b) : Wr w' a c xs :=
 ⟨h.1, h.2.imp (fun h => h) (fun ⟨b, cs, e, hb, hc⟩ => ⟨b, cs, e, hb.keeps hk (hd b e), hc⟩)⟩
theorem Wr.kd (h : Wr w a c xs) (hk : Keeps (fun _ => False) w w') : Wr w' a c xs := h.keeps hk (fun _ _ h => h)
theorem Wr.set_ (h : Wr w a c xs) {g i : Nat} {t : TypeId} {ds : List Value} (hg : Blk w g t ds) (ht : t ≠ 35) (u : Value) : Wr (w.setCell ⟨g, i, none⟩ u) a c xs :=
 ⟨h.1, h.2.imp (fun h => h) (fun ⟨b, cs, e, hb, hc⟩ => ⟨b, cs, e, hb.far (p := ⟨g, i, none⟩) (Blk.ne_ hb hg (fun e => ht e.symm)) u, hc⟩)⟩
theorem Wr.take (h : Wr w a c xs) {m : Nat} (hm : m ≤ xs.length) : Wr w a c (xs.take m) := by
 refine ⟨by rw [List.length_take]; have := h.1; omega, ?_⟩
 rcases h.2 with rfl | ⟨b, cs, e, hb, hc⟩
 ·exact .inl ZA7
 ·refine .inr ⟨b, cs, e, hb, fun i x hx => hc i x ?_⟩
  have hi : i < m := by have := (List.getElem?_eq_some_iff.1 hx).1; simp at this; omega
  rwa [List.getElem?_take_of_lt hi] at hx
end
structure Wz (w : World) (neg : Bool) (a : Option Addr) (n c : Nat) (z : Int) (k : Nat) : Prop where
 row : ∃ l, n = l.length ∧ Wr w a c l ∧ Who neg l z
 len : n ≤ k
section
variable {w w' : World} {neg : Bool} {a : Option Addr} {n c : Nat} {z : Int} {k : Nat}
theorem Wz.kd (h : Wz w neg a n c z k) (hk : Keeps (fun _ => False) w w') : Wz w' neg a n c z k := by
 obtain ⟨⟨l, e, h1, h2⟩, h3⟩ := h
 exact ⟨⟨l, e, h1.kd hk, h2⟩, h3⟩
theorem Wz.more {m : Nat} (h : Wz w neg a n c z k) (hm : k ≤ m) : Wz w neg a n c z m := ⟨h.1, Nat.le_trans h.2 hm⟩
theorem Wz.set_ (h : Wz w neg a n c z k) {g i : Nat} {t : TypeId} {ds : List Value} (hg : Blk w g t ds) (ht : t ≠ 35) (u : Value) : Wz (w.setCell ⟨g, i, none⟩ u) neg a n c z k := by
 obtain ⟨⟨l, e, h1, h2⟩, h3⟩ := h
 exact ⟨⟨l, e, h1.set_ hg ht u, h2⟩, h3⟩
theorem Wz.neg_ (h : Wz w neg a n c z k) : neg = decide (z < 0) := by obtain ⟨⟨l, e, h1, h2⟩, h3⟩ := h; exact h2.sgn
theorem Wz.nil (h : Wz w neg a n c z k) : n = 0 ↔ z = 0 := by
 obtain ⟨⟨l, e, h1, h2⟩, h3⟩ := h
 rw [← h2.nil, e, List.length_eq_zero_iff]
end
def GaveW (z : Int) (k : Nat) (w : World) (e : Ending) (w' : World) : Prop := ∃ neg a n c, e = .returned (.agg #[.bool neg, .slice a n c]) ∧ Keeps (fun _ => False) w w' ∧ Wz w' neg a n c z k
theorem store_two {w w1 w2 : World} {g : Nat} {ds : List Value} (hk : Keeps (fun _ => False) w w1) (hg : Blk w1 g 101 ds) (hl : w.heap.size ≤ g) (hk2 : Keeps (fun _ => False) w1 w2) (u v : Value) :
 Keeps (fun _ => False) w ((w2.setCell ⟨g, 0, none⟩ u).setCell ⟨g, 1, none⟩ v) ∧ ∀ a c xs, Wr w2 a c xs → Wr ((w2.setCell ⟨g, 0, none⟩ u).setCell ⟨g, 1, none⟩ v) a c xs := by
 have hg2 := hg.keeps hk2 (fun h => h)
 exact ⟨((hk.trans hk2).setCell (p := ⟨g, 0, none⟩) (fun h => ZAT) _).setCell (p := ⟨g, 1, none⟩) (fun h => ZAT) _, fun a c xs h => (h.set_ hg2 ZBO _).set_ (hg2.set_ 0 u) ZBO _⟩
theorem gave_store {z : Int} {k : Nat} {w w1 w2 : World} {g : Nat} {ds : List Value} {neg : Bool} {a : Option Addr} {n c : Nat} (hk : Keeps (fun _ => False) w w1) (hg : Blk w1 g 101 ds) (hl : w.heap.size ≤ g) (hk2 : Keeps (fun _ => False) w1 w2) (hz : Wz w2 neg a n c z k) :
 GaveW z k w (.returned (.agg #[.bool neg, .slice a n c])) ((w2.setCell ⟨g, 0, none⟩ (.bool neg)).setCell ⟨g, 1, none⟩ (.slice a n c)) := by
 have hg2 := hg.keeps hk2 (fun h => h)
 exact ⟨neg, a, n, c, rfl, ((hk.trans hk2).setCell (p := ⟨g, 0, none⟩) (fun h => ZAT) _).setCell (p := ⟨g, 1, none⟩) (fun h => ZAT) _, (hz.set_ hg2 ZBO _).set_ (hg2.set_ 0 (.bool neg)) ZBO _⟩
theorem results_w {fn : Func} {p : Tmp} (hf : fn.results = #[.cell p 101]) (tmps : Array Value) (w : World) (g : Nat) (ds : List Value) (neg : Bool) (a : Option Addr) (n c : Nat) (hl : ds.length = 2) (hp : tmps.getD p undef = .pointer (some ⟨g, 0, none⟩)) (hg : Blk w g 101 ds) :
 (results fn tmps).run Tryz.prog ((w.setCell ⟨g, 0, none⟩ (.bool neg)).setCell ⟨g, 1, none⟩ (.slice a n c)) = .ok (.agg #[.bool neg, .slice a n c]) ((w.setCell ⟨g, 0, none⟩ (.bool neg)).setCell ⟨g, 1, none⟩ (.slice a n c)) := by
 obtain ⟨x, y, rfl⟩ : ∃ x y, ds = [x, y] := by
  rcases ds with _ | ⟨x, _ | ⟨y, _ | _⟩⟩ <;> simp at hl
  exact ⟨x, y, rfl⟩
 refine results_cell_row hf _ _ g 101 #[.bool neg, .slice a n c] (0, 0) _ hp ?_ Tryz.underlying101 rfl ZBL
 have := (hg.set_ 0 (.bool neg)).set_ 1 (.slice a n c)
 simpa [Blk] using this
theorem made_t (neg : Bool) (a : Option Addr) (n0 c : Nat) (l : List Nat) (w : World) (hs : Wr w a c l) (hn0 : n0 = l.length) (hl : l.length ≤ 1000000) : Calls Tryz.prog 49 #[.bool neg, .slice a n0 c] w (fun e w' => ∃ n : Nat, n ≤ l.length ∧ e = .returned (.agg #[.bool (neg && decide (0 < n)), .slice a n c]) ∧ Keeps (fun _ => False) w w' ∧ Wr w' a c (l.take n) ∧ Top (l.take n) ∧ wv (l.take n) = wv l) := by
 have hc := hs.1
 have HS := Lib.hid (And.intro hs (And.intro hn0 hl))
 rw [← hn0] at hc
 have bW := Blk.new w 101 [.bool false, .slice none 0 0]
 have HB := Lib.hid bW
 have hd0 := Keeps.alloc (Keeps.refl (fun _ => False) w) (.cells #[.bool false, .slice none 0 0] 101)
 have HD := Lib.hid hd0
 clear hs hl hn0 hd0 bW
 go_enter Tryz.func49, Tryz.ntmps49
 go_wp2
 go_loopw [5] (fun p wr => ∃ n : Nat, n ≤ n0 ∧ p = .int .i64 (n : Int) ∧ wv (l.take n) = wv l ∧ Keeps (fun _ => False) (w.alloc (.cells #[.bool false, .slice none 0 0] 101)) wr) (fun p _ => (intOf p).toNat)
 case atStart => exact ⟨n0, Nat.le_refl _, rfl, by rw [HS.out.2.1, List.take_length], ZBH⟩
 case round =>
  obtain ⟨n, hn, rfl, hv, hk⟩ := hrel
  have bR := HB.out.keeps hk (fun h => h)
  have cR := bR.cell
  have fR := bR.frozen
  have HR := Lib.hid bR
  clear bR
  have hcn : (n : Int) ≤ (c : Int) := by omega
  have hn1 : (0 : Int) ≤ (n : Int) := by omega
  by_cases h0 : n = 0
  ·subst h0
   have HV := Lib.hid (And.intro hv hk)
   clear hv hk hn1
   cases neg
   all_goals
    go_wp2
    refine bodyPost_ret (results_w rfl _ _ w.heap.size [.bool false, .slice none 0 0] false a 0 c rfl rfl HR.out) rfl ?_
    refine ⟨0, Nat.zero_le _, ZA7, (store_two HD.out HB.out (Nat.le_refl _) HV.out.2 _ _).1, ⟨Nat.zero_le _, .inl rfl⟩, by simp [Top], HV.out.1⟩
  ·obtain ⟨m, rfl⟩ : ∃ m, n = m + 1 := ⟨n - 1, Z8⟩
   have hm : m < l.length := by have := HS.out.2.1; omega
   obtain ⟨x, hxm⟩ : ∃ x, l[m]? = some x := ⟨_, List.getElem?_eq_getElem hm⟩
   obtain ⟨b, hab, hcx⟩ := (HS.out.1.kd (HD.out.trans hk)).at_ hxm
   have hw : wrap64 (m : Int) = (m : Int) := by unfold wrap64; have := HS.out.2.2; have := HS.out.2.1; omega
   have hmn : ((m : Int) < (n0 : Int)) := by have := HS.out.2.1; omega
   have hm0 : (0 : Int) ≤ (m : Int) := by omega
   have hgt : (((m + 1 : Nat) : Int) > 0) := by omega
   have HV := Lib.hid (And.intro hv (And.intro hk (And.intro hxm hn)))
   have HM := Lib.hid hm
   subst hab
   by_cases hx0 : x = 0
   ·subst hx0
    clear hv hk hxm h0 hn hm hn1
    go_wp2
    go_roundw
    case rel => exact ⟨m, by have := HV.out.2.2.2; omega, by rw [hw], by rw [← wv_drop0 HV.out.2.2.1]; exact HV.out.1, HV.out.2.1⟩
    case measure => rw [hw]; simp [intOf]
   ·have hxI : ((x : Int) == 0) = false := by simp; omega
    have HX0 := Lib.hid hx0
    clear hv hk hxm h0 hn hm hn1 hx0
    cases neg
    all_goals
     go_wp2
     refine bodyPost_ret (results_w rfl _ _ w.heap.size [.bool false, .slice none 0 0] _ (some ⟨b, 0, none⟩) (m + 1) c rfl rfl HR.out) rfl ?_
     refine ⟨m + 1, HM.out, ZA7, (store_two HD.out HB.out (Nat.le_refl _) HV.out.2.1 _ _).1, (store_two HD.out HB.out (Nat.le_refl _) HV.out.2.1 _ _).2 _ _ _ ((HS.out.1.kd (HD.out.trans HV.out.2.1)).take HM.out), top_take HV.out.2.2.1 HX0.out, HV.out.1⟩
theorem made_w (neg : Bool) (a : Option Addr) (n0 c : Nat) (l : List Nat) (w : World) (hs : Wr w a c l) (hn0 : n0 = l.length) (hd : Wd l) (k : Nat) (hk : l.length ≤ k) (hl : k ≤ 1000000) (z : Int) (hz : z = if neg then -(wv l : Int) else (wv l : Int)) : Calls Tryz.prog 49 #[.bool neg, .slice a n0 c] w (GaveW z k w) := by
 refine (made_t neg a n0 c l w hs hn0 Z8).mono ?_
 rintro e w' ⟨n, hn, rfl, h1, h2, h3, h4⟩
 have hlen : (l.take n).length = n := by rw [List.length_take]; omega
 have := Who.made hd h3 h4 hz
 rw [hlen] at this
 exact ⟨_, _, _, _, rfl, h1, ⟨_, hlen.symm, h2, this⟩, Z8⟩
theorem wr_two {w : World} {b x y : Nat} (h : Blk w b 35 [.int .u32 (x : Int), .int .u32 (y : Int)]) : Wr w (some ⟨b, 0, none⟩) 2 [x, y] := by
 refine ⟨ZA7, .inr ⟨b, _, rfl, h, fun i z hz => ?_⟩⟩
 rcases i with _ | _ | i
 ·simp at hz; subst hz; rfl
 ·simp at hz; subst hz; rfl
 ·simp at hz
theorem words_two (u : Nat) (hu : u < 18446744073709551616) : Wd [u % 4294967296, u / 4294967296] ∧ wv [u % 4294967296, u / 4294967296] = u := by
 constructor
 ·intro x hx
  simp only [List.mem_cons, List.not_mem_nil, or_false] at hx
  rcases hx with rfl | rfl <;> omega
 ·simp only [wv]; omega
theorem of_made (neg : Bool) (u : Nat) (hu : u < 18446744073709551616) (w : World) : Calls Tryz.prog 49 #[.bool neg, .slice (some ⟨w.heap.size + 1, 0, none⟩) 2 2] ((w.alloc (.cells #[.bool false, .slice none 0 0] 101)).alloc (.cells #[.int .u32 ((u : Int) % 4294967296), .int .u32 ((u : Int) / 4294967296)] 35)) (GaveW (if neg then -(u : Int) else (u : Int)) 2 ((w.alloc (.cells #[.bool false, .slice none 0 0] 101)).alloc (.cells #[.int .u32 ((u : Int) % 4294967296), .int .u32 ((u : Int) / 4294967296)] 35))) := by
 have hb := Blk.new (w.alloc (.cells #[.bool false, .slice none 0 0] 101)) 35 [.int .u32 ((u % 4294967296 : Nat) : Int), .int .u32 ((u / 4294967296 : Nat) : Int)]
 rw [show ((u : Int) % 4294967296) = ((u % 4294967296 : Nat) : Int) by omega, show ((u : Int) / 4294967296) = ((u / 4294967296 : Nat) : Int) by omega]
 simp only [World.size_alloc] at hb
 have h2 := words_two u hu
 exact made_w neg _ 2 2 [u % 4294967296, u / 4294967296] _ (wr_two hb) rfl h2.1 2 ZA7 ZBO _ (by rw [h2.2])
theorem of_pos (u : Nat) (hu : u < 9223372036854775808) (w : World) : Calls Tryz.prog 45 #[.int .i64 (u : Int)] w (GaveW (u : Int) 2 w) := by
 have h1 : IntKind.u64.wrap (u : Int) = (u : Int) := IntWalk.u64_in _ Z8
 have h0 : ¬ ((u : Int) < 0) := by omega
 have HM := Lib.hid (of_made false u Z8 w)
 have hB := Blk.new w 101 [.bool false, .slice none 0 0]
 have HB := Lib.hid hB
 clear hB
 exact Zh
theorem of_neg (z : Int) (hz : -9223372036854775808 ≤ z ∧ z < 0) (w : World) : Calls Tryz.prog 45 #[.int .i64 z] w (GaveW z 2 w) := by
 obtain ⟨u, rfl⟩ : ∃ u : Nat, z = -(u : Int) := ⟨z.natAbs, Z8⟩
 have h1 : IntKind.u64.wrap (-IntKind.u64.wrap (-(u : Int))) = (u : Int) := by
  rw [IntKind.wrap_u64, IntKind.wrap_u64]; omega
 have h2 : IntKind.u64.wrap ((u : Int) / 4294967296) = (u : Int) / 4294967296 := IntWalk.u64_in _ Z8
 have h3 : ((u : Int) / 4294967296) % 4294967296 = (u : Int) / 4294967296 := by omega
 have h0 : (-(u : Int) < 0) := by omega
 have HM := Lib.hid (of_made true u Z8 w)
 have hB := Blk.new w 101 [.bool false, .slice none 0 0]
 have HB := Lib.hid hB
 clear hB hz
 exact Zh
theorem of_t (z : Int) (hz : -9223372036854775808 ≤ z ∧ z < 9223372036854775808) (w : World) : Calls Tryz.prog 45 #[.int .i64 z] w (GaveW z 2 w) := by
 rcases Int.lt_or_le z 0 with h | h
 ·exact of_neg z Z8 w
 ·obtain ⟨u, rfl⟩ : ∃ u : Nat, z = (u : Int) := ⟨z.toNat, Z8⟩
  exact of_pos u Z8 w
theorem who_other {neg : Bool} {l : List Nat} {z : Int} (h : Who neg l z) : -z = if (!neg) = true then -(wv l : Int) else (wv l : Int) := by
 have h1 := h.sgn; have h2 := h.abs
 by_cases hz : z < 0
 ·simp [h1, hz]; omega
 ·simp [h1, hz]; omega
theorem other_t (neg : Bool) (a : Option Addr) (n c : Nat) (z : Int) (k : Nat) (w : World) (h : Wz w neg a n c z k) (hk : k ≤ 1000000) : Calls Tryz.prog 44 #[.agg #[.bool neg, .slice a n c]] w (GaveW (-z) k w) := by
 obtain ⟨⟨l, hn, hr, hw⟩, hnk⟩ := h
 have k1 : Keeps (fun _ => False) w ((w.alloc (.cells #[.bool neg, .slice a n c] 101)).alloc (.cells #[.bool false, .slice none 0 0] 101)) := by (repeat (first | exact Keeps.refl _ _ | refine Keeps.alloc ?_ _ | refine Keeps.drew ?_))
 have HM := Lib.hid (made_w (!neg) a n c l ((w.alloc (.cells #[.bool neg, .slice a n c] 101)).alloc (.cells #[.bool false, .slice none 0 0] 101)) (hr.kd k1) hn hw.wd k Z8 hk (-z) (who_other hw))
 have b1 := (Blk.new w 101 [.bool neg, .slice a n c]).alloc (.cells #[.bool false, .slice none 0 0] 101)
 have b2 := Blk.new (w.alloc (.cells #[.bool neg, .slice a n c] 101)) 101 [.bool false, .slice none 0 0]
 simp only [World.size_alloc] at b2
 have c1 := b1.cell
 have HB := Lib.hid b2
 have HK := Lib.hid k1
 clear hr hw hn hnk hk k1 b1 b2
 go_enter Tryz.func44, Tryz.ntmps44
 go_wp2_with ((with_reducible refine HM.out.mono ?_); rintro e w4 ⟨neg4, a4, n4, c4, rfl, k4, hz4⟩; have HZ := Lib.hid (And.intro k4 hz4); have hg := HB.out.keeps k4 (fun h => h); have cg := hg.cell; have fg := hg.frozen; have HG := Lib.hid hg; clear k4 hz4 hg)
 exact bodyPost_ret (results_w rfl _ _ (w.heap.size + 1) [.bool false, .slice none 0 0] _ _ _ _ rfl rfl HG.out) rfl (gave_store HK.out HB.out (Nat.le_succ _) HZ.out.1 HZ.out.2)
def sg (z : Int) : Int := if z < 0 then -1 else if z = 0 then 0 else 1
theorem sign_t (neg : Bool) (a : Option Addr) (n c : Nat) (z : Int) (k : Nat) (w : World) (h : Wz w neg a n c z k) (hk : k ≤ 1000000) : Calls Tryz.prog 42 #[.agg #[.bool neg, .slice a n c]] w (fun e w' => e = .returned (.int .i64 (sg z)) ∧ Keeps (fun _ => False) w w') := by
 have h1 := h.neg_
 have h2 := h.nil
 have h3 := h.len
 have b1 := Blk.new w 101 [.bool neg, .slice a n c]
 have c1 := b1.cell
 have k1 : Keeps (fun _ => False) w (w.alloc (.cells #[.bool neg, .slice a n c] 101)) := by (repeat (first | exact Keeps.refl _ _ | refine Keeps.alloc ?_ _ | refine Keeps.drew ?_))
 have HK := Lib.hid k1
 by_cases hz : z < 0
 ·have e1 : neg = true := by simp [h1, hz]
  have e2 : sg z = -1 := by simp [sg, hz]
  rw [e2]
  subst e1
  clear h h1 h2 h3 hk b1 k1 hz e2
  go_enter Tryz.func42, Tryz.ntmps42
  go_wp2
  go_ret
  exact ⟨rfl, HK.out⟩
 ·have e1 : neg = false := by simp [h1, hz]
  by_cases h0 : z = 0
  ·have e2 : sg z = 0 := by simp [sg, h0]
   have e3 : n = 0 := h2.2 h0
   rw [e2]
   subst e1 e3
   clear h h1 h2 h3 hk b1 k1 hz h0 e2
   go_enter Tryz.func42, Tryz.ntmps42
   go_wp2
   go_ret
   exact ⟨rfl, HK.out⟩
  ·have e2 : sg z = 1 := by simp [sg, hz, h0]
   have e3 : (1 : Int) ≤ (n : Int) := by have : n ≠ 0 := fun e => h0 (h2.1 e); omega
   rw [e2]
   subst e1
   clear h h1 h2 h3 hk b1 k1 hz h0 e2
   go_enter Tryz.func42, Tryz.ntmps42
   go_wp2
   go_ret
   exact ⟨rfl, HK.out⟩
end Bg
end Go.Proofs.YtdbpfbokfmpgcaaGreat
