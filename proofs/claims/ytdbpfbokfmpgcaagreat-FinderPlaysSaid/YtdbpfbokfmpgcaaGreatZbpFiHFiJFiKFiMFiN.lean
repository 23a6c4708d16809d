/-
FiH: maps.Keys: the keys of a map, each once, in an order not known ahead.
FiJ: those: one round over the numbers that are told.
FiK: those.
FiM: those, over the keys of the scan's map, over a grid's list, over a tree's; the closures that take.
FiN: the finder: what hands out the numbers, what takes the boxes; the scan's At and Crossing.
-/
import Derived.Test.YtdbpfbokfmpgcaaGreatZaaMemIterTreeAHeldGrowIter
import Derived.Test.YtdbpfbokfmpgcaaGreatZasGsOGsQ
import Derived.Test.YtdbpfbokfmpgcaaGreatZbmFiI
import Derived.Test.YtdbpfbokfmpgcaaGreatZatGsR
import Derived.Test.YtdbpfbokfmpgcaaGreatZauTreeCTreeDTrMTreeBaTreeE
import Derived.Test.YtdbpfbokfmpgcaaGreatZboFiE
import Derived.Test.YtdbpfbokfmpgcaaGreatZbhFiLHxPAppBFqAFqBFiG
import Derived.ChangeKeysEq
set_option linter.unusedVariables false
set_option linter.unusedSimpArgs false
set_option linter.ambiguousOpen false
set_option maxHeartbeats 16000000
set_option maxRecDepth 100000
attribute [local go_sem] Go.Oper.semAt_some
namespace Go.Proofs.YtdbpfbokfmpgcaaGreat
theorem Z6 {p : Prop} (h : p := by (first | exact HK7.out | exact HK6.out | exact HK5.out | (refine HK7.out.trans ?_; (repeat (first | exact Keeps.refl _ _ | refine Keeps.alloc ?_ _ | refine Keeps.drew ?_))) | (refine HK6.out.trans ?_; (repeat (first | exact Keeps.refl _ _ | refine Keeps.alloc ?_ _ | refine Keeps.drew ?_))) | (refine HK5.out.trans ?_; (repeat (first | exact Keeps.refl _ _ | refine Keeps.alloc ?_ _ | refine Keeps.drew ?_))) | (repeat (first | exact Keeps.refl _ _ | refine Keeps.alloc ?_ _ | refine Keeps.drew ?_)))) : p := h
theorem ZA1 {p : Prop} (h : p := by have := (hb.keeps k (fun h => h)).cell 0; simpa using this) : p := h
theorem ZI {p : Prop} (h : p := by
 go_wp2
 go_ret
 exact ⟨_, _, rfl, HK.out.trans Z6, vals_low HV.out.1 (HK.out.trans HK6.out).size, HV.out.2⟩) : p := h
open Go.RowKit Go.Shelf
namespace Fi
open Mem Gr Gs
def KNx (E : List (Nat × Value × Nat)) (pre : List Nat) (x : Nat) : Prop := x ∈ E.map (·.1) ∧ pre.length < E.length
def KFin (E : List (Nat × Value × Nat)) (ys : List Nat) : Prop := (∀ k ∈ E.map (·.1), k ∈ ys) ∧ ys.length ≤ E.length
theorem keys1_gives (n PB r clock : Nat) (E : List (Nat × Value × Nat)) (W : World) (hP : Blk W PB 60 [.map (some r)]) (hE : MapE kid W r E clock) :
 GivesP Tryz.prog n 83 #[.pointer (some ⟨PB, 0, none⟩)] (fun x : Nat => #[.int .u32 (x : Int)]) (KNx E) (KFin E) W (fun S => ¬ S r) (fun _ => False) := by
 intro l J Jx S hA hJ hJx hin _ hY h0
 refine callsIn_of_wp Tryz.func83 rfl trivial ?_ rfl
 simp only [Tryz.ntmps83, List.size_toArray, List.length_cons, List.length_nil, Nat.reduceAdd, Nat.reduceSub, Array.replicate_succ, Array.replicate_zero, List.push_toArray, List.append_toArray, List.nil_append, List.cons_append]
 have HY := Lib.hid hY; clear hY
 have c1 := hP.cell 0
 simp only [List.getElem?_cons_zero] at c1
 have hrg := run_range_map (P := Tryz.prog) W 60 _ _ r _ clock Tryz.underlying60 hE.heap
 have hk0 : Keeps (fun _ => False) W (W.alloc (.mapIter (some r) clock #[] clock)) := by (repeat (first | exact Keeps.refl _ _ | refine Keeps.alloc ?_ _ | refine Keeps.drew ?_))
 have hz0 : (W.alloc (.mapIter (some r) clock #[] clock)).heap.size = W.heap.size + 1 := by simp
 have HS := Lib.hid (show J [] S (W.alloc (.mapIter (some r) clock #[] clock)) ∧ Inb S (W.alloc (.mapIter (some r) clock #[] clock)) ∧ Foot S S W (W.alloc (.mapIter (some r) clock #[] clock)) ∧ ¬ S W.heap.size from ⟨hJ _ S _ _ _ h0 hin hk0 (fun _ _ h => h) (fun _ h => h.elim), hin.mono hk0.size, Foot.same (hk0.mono (fun _ _ h => h.elim)), fun h => by have := hin _ h; omega⟩)
 have HE := Lib.hid (And.intro hE (And.intro hA hJ))
 have hrl := hE.lt
 have HR := Lib.hid hrl
 clear hE hA hJ h0 hk0 hP hin hrl
 gi_wp2
 gi_loopw [3] (fun _ wr => ∃ (D : List (Nat × Value × Nat)) (Sk : Nat → Prop), IterE wr W.heap.size r E clock D ∧ J (D.map (·.1)) Sk wr ∧ Inb Sk wr ∧ Foot S Sk W wr ∧ ¬ Sk W.heap.size) (fun _ wr => leftN E W.heap.size wr)
 case atStart =>
  refine ⟨[], S, ⟨?_, ZA7, ZA7⟩, HS.out.1, HS.out.2.1, HS.out.2.2.1, HS.out.2.2.2⟩
  have := heap_alloc_new W (.mapIter (some r) clock #[] clock)
  exact this
 case round =>
  obtain ⟨D, Sk, hIt, hj, hink, hf, hns⟩ := hrel
  have hnr : ¬ Sk r := fun h => (hf.2 r h).elim HE.out.2.1 (fun h => by have := HR.out; omega)
  have hEr := HE.out.1.keeps hf.1 HE.out.2.1
  rcases hIt.next (P := Tryz.prog) hEr with ⟨hnx, hall⟩ | ⟨e, he, w5, hnx, hen, hk5, hIt5, hlt⟩
  ·have hdl := hIt.len
   have HX := Lib.hid (And.intro hj (And.intro hink (And.intro hf (And.intro hall hdl))))
   clear hIt hj hink hf hall hEr hnr hns hrg c1 hdl
   gi_wp2
   go_end0
   obtain ⟨hj, hink, hf, hall, hdl⟩ := HX.out
   exact ⟨⟨_, rfl⟩, Sk, ⟨hf.1.mono (fun _ _ h => .inl h), fun k hk => (hf.2 k hk).imp .inl id⟩, hink, .inl ⟨_, ⟨fun k hk => by
    obtain ⟨e, he, rfl⟩ := List.mem_map.1 hk
    exact List.mem_map.2 ⟨e, hall e he, rfl⟩, by simpa using hdl⟩, hj⟩⟩
  ·have hj5 := HE.out.2.2 _ Sk _ _ _ hj hink hk5 (fun k hk e => hns (e ▸ hk)) (fun k e => Z8)
   have hin5 := hink.mono hk5.size
   have hf5 : Foot S Sk W w5 := ⟨hf.1.then hk5 (fun i hi e => Z8), hf.2⟩
   have hdl : D.length < E.length := by have := hIt5.len; simp at this; omega
   obtain ⟨id, v, st⟩ := e
   simp only at hnx hen
   obtain ⟨fn, tmps, assign, body, hy, hR⟩ := HY.out (D.map (·.1)) id Sk w5 ⟨List.mem_map.2 ⟨_, he, rfl⟩, by simpa using hdl⟩ hj5 hin5
   have hl5 := hIt5.lt
   have HX := Lib.hid (And.intro hIt5 (And.intro hf5 (And.intro hns (And.intro hlt hl5))))
   simp only [kid] at hnx hen
   clear hIt hj hink hf hEr hnr hrg c1 hj5 hin5 hf5 hIt5 hdl hk5 hlt hl5 hns
   gi_wp2
   refine ⟨fun h => by simp [Fence.wide] at h, hR.mono ?_⟩
   rintro e W3 ⟨S3, hf3, hin3, (⟨rfl, hj3⟩ | ⟨rfl, hj3⟩)⟩
   ·obtain ⟨hIt5, hf5, hns, hlt, hl5⟩ := HX.out
    have hn3 : ¬ S3 W.heap.size := fun h => (hf3.2 _ h).elim hns (fun h => Z8)
    have hIt3 := hIt5.keeps hf3.1 hns
    have HZ := Lib.hid (And.intro hIt3 (And.intro hj3 (And.intro hin3 (And.intro (hf5.trans hf3) hn3))))
    have hm3 : leftN E W.heap.size W3 = leftN E W.heap.size w5 := by
     unfold leftN
     rw [hf3.1.block _ hl5 hns]
    have HM := Lib.hid (hm3 ▸ hlt)
    clear hIt3 hj3 hin3 hf5 hn3 hf3 hns hlt hl5 hIt5 hm3
    gi_wp2
    go_roundw
    case rel => exact ⟨D ++ [(id, v, st)], S3, HZ.out.1, by simpa using HZ.out.2.1, HZ.out.2.2⟩
    case measure => exact HM.out
   ·gi_wp2
    refine bodyPost_ret (results_none rfl _ _ _) rfl ?_
    have hf5 := HX.out.2.1.trans hf3
    exact ⟨⟨_, rfl⟩, S3, ⟨hf5.1.mono (fun _ _ h => .inl h), fun k hk => (hf5.2 k hk).imp .inl (fun h => h)⟩, hin3, .inr ⟨_, hj3⟩⟩
end Fi
open Go.RowKit Go.Shelf
namespace Fi
open Mem Gr Gs
open So (vals)
def fetch : List (Nat × Bx) → Nat → Bx
 | [], _ => ⟨0, 0, 0, 0⟩
 | p :: L, id => if p.1 = id then p.2 else fetch L id
theorem fetch_look (L : List (Nat × Bx)) (id : Nat) : (lookK id (kvB L)).getD (Value.agg #[.int .i32 0, .int .i32 0, .int .i32 0, .int .i32 0]) = (fetch L id).val := by
 induction L with
 | nil => rfl
 | cons p L ih =>
  show (lookK id ((p.1, p.2.val) :: kvB L)).getD _ = _
  unfold lookK fetch
  split
  ·rfl
  ·exact ih
theorem fetch_mem {L : List (Nat × Bx)} {id : Nat} (h : hasB L id = true) : (id, fetch L id) ∈ L := by
 induction L with
 | nil => simp [hasB] at h
 | cons p L ih =>
  unfold fetch
  by_cases e : p.1 = id
  ·rw [if_pos e, ← e]; simp
  ·rw [if_neg e]
   refine List.mem_cons_of_mem _ (ih ?_)
   unfold hasB at h ⊢
   rw [List.any_cons] at h
   simpa [e] using h
def took (L : List (Nat × Bx)) (tk : Bx → Bool) (id : Nat) : Bool := hasB L id && tk (fetch L id)
theorem took_iff {L : List (Nat × Bx)} {tk : Bx → Bool} (hk : OkL L) {id : Nat} : took L tk id = true ↔ ∃ b, (id, b) ∈ L ∧ tk b = true := by
 unfold took
 rw [Bool.and_eq_true]
 constructor
 ·rintro ⟨h1, h2⟩; exact ⟨_, fetch_mem h1, h2⟩
 ·rintro ⟨b, hb, ht⟩
  have h1 : hasB L id = true := hasB_iff.2 ⟨b, hb⟩
  exact ⟨h1, by rw [hk.one (fetch_mem h1) hb]; exact ht⟩
noncomputable def thoseB : Code := (rbods (Tryz.f75.body.getD .skip)).getD 0 .skip
def Takes (w : World) (tf : Nat) (tb : Array Value) (tk : Bx → Bool) : Prop := ∀ b W1, Right b → Keeps (fun _ => False) w W1 → Calls Tryz.prog tf (#[.agg #[.int .i32 b.x0, .int .i32 b.y0, .int .i32 b.x1, .int .i32 b.y1]] ++ tb) W1 (Gave (.bool (tk b)) W1)
theorem filter_snoc_no {f : Nat → Bool} {pre : List Nat} {x : Nat} (h : f x = false) : (pre ++ [x]).filter f = pre.filter f := by simp [h]
theorem filter_snoc_yes {f : Nat → Bool} {pre : List Nat} {x : Nat} (h : f x = true) : (pre ++ [x]).filter f = pre.filter f ++ [x] := by simp [h]
theorem those_skip (l : Nat) (told : Value) (w : World) (B off r B3 B5 Bl tf : Nat) (tb : Array Value) (tk : Bx → Bool) (L : List (Nat × Bx)) (hB : ScB w B off r) (hM : MapL kid w r (kvB L)) (b3 : Blk w B3 63 [.pointer (some ⟨B, off, none⟩)]) (b5 : Blk w B5 95 [.func (.func tf) #[] tb]) (hBl : w.heap.size ≤ Bl) (hL : OkL L) (et : ∀ args w, (callFunc tf args).run Tryz.prog w = .ok (.enter tf args) w) (htk : Takes w tf tb tk) (pre : List Nat) (x : Nat) (hx : pre.length ≤ 1000000000) (S : Nat → Prop) (W : World) (hI : TI w (fun _ => False) Bl (pre.filter (took L tk)) S W) (hin : Inb S W) (hh : hasB L x = false) : thoseB.wpIn (Fence.wide.inRound l) 7 Tryz.prog (Mem.Left (fun pre S W => TI w (fun _ => False) Bl (pre.filter (took L tk)) S W) (fun _ _ _ _ => False) (pre ++ [x]) S W) ⟨#[.pointer (some ⟨B, off, none⟩), told, .func (.func tf) #[] tb, .pointer (some ⟨B3, 0, none⟩), undef, .pointer (some ⟨B5, 0, none⟩), .nilFunc, .pointer (some ⟨Bl, 0, none⟩), .int .u32 (x : Int), undef, undef, told, .int .u32 (x : Int), undef, undef, undef, undef, undef, undef, undef, undef, undef, undef, undef, undef, undef, undef, undef, undef, undef, undef, undef, undef, undef, undef, undef, undef], []⟩ W := by
 have hK := hI.1
 have hlk := look_box (hM.keeps hK (fun h => h)) x
 rw [fetch_look, hh] at hlk
 simp only [Bx.val] at hlk
 have cB := (hB.kd hK).cell
 have c3 := (b3.keeps hK (fun h => h)).cell
 have ht : took L tk x = false := by simp [took, hh]
 have HI := Lib.hid (And.intro hI (And.intro hin ht))
 clear hI hin ht hB hM b3 b5 hBl hL et htk hK hh
 conv => arg 4; whnf
 gi_wp2
 rename_i Q0 K1 h1 K2 h2 x1 x2 x3 x4
 refine ⟨fun f h => (by cases h), h2 _ _ ?_⟩
 clear x4 x3 x2 x1 h2
 gi_wp2
 obtain ⟨hI, hin, ht⟩ := HI.out
 have ka := (Keeps.refl (fun _ => False) W).alloc (.cells #[.int .i32 (fetch L x).x0, .int .i32 (fetch L x).y0, .int .i32 (fetch L x).x1, .int .i32 (fetch L x).y1] 39)
 refine ⟨S, Foot.same (ka.mono (fun _ _ h => h.elim)), hin.mono ka.size, ?_⟩
 show TI w (fun _ => False) Bl ((pre ++ [x]).filter (took L tk)) S _
 rw [filter_snoc_no ht]
 exact hI.keeps ka (fun _ _ h => h) (fun _ _ h => h.elim)
theorem those_not (l : Nat) (told : Value) (w : World) (B off r B3 B5 Bl tf : Nat) (tb : Array Value) (tk : Bx → Bool) (L : List (Nat × Bx)) (hB : ScB w B off r) (hM : MapL kid w r (kvB L)) (b3 : Blk w B3 63 [.pointer (some ⟨B, off, none⟩)]) (b5 : Blk w B5 95 [.func (.func tf) #[] tb]) (hBl : w.heap.size ≤ Bl) (hL : OkL L) (et : ∀ args w, (callFunc tf args).run Tryz.prog w = .ok (.enter tf args) w) (htk : Takes w tf tb tk) (pre : List Nat) (x : Nat) (hx : pre.length ≤ 1000000000) (S : Nat → Prop) (W : World) (hI : TI w (fun _ => False) Bl (pre.filter (took L tk)) S W) (hin : Inb S W) (hh : hasB L x = true) (ht : tk (fetch L x) = false) : thoseB.wpIn (Fence.wide.inRound l) 7 Tryz.prog (Mem.Left (fun pre S W => TI w (fun _ => False) Bl (pre.filter (took L tk)) S W) (fun _ _ _ _ => False) (pre ++ [x]) S W) ⟨#[.pointer (some ⟨B, off, none⟩), told, .func (.func tf) #[] tb, .pointer (some ⟨B3, 0, none⟩), undef, .pointer (some ⟨B5, 0, none⟩), .nilFunc, .pointer (some ⟨Bl, 0, none⟩), .int .u32 (x : Int), undef, undef, told, .int .u32 (x : Int), undef, undef, undef, undef, undef, undef, undef, undef, undef, undef, undef, undef, undef, undef, undef, undef, undef, undef, undef, undef, undef, undef, undef, undef], []⟩ W := by
 have hK := hI.1
 have hlk := look_box (hM.keeps hK (fun h => h)) x
 rw [fetch_look, hh] at hlk
 simp only [Bx.val] at hlk
 have cB := (hB.kd hK).cell
 have c3 := (b3.keeps hK (fun h => h)).cell
 have ka := (Keeps.refl (fun _ => False) W).alloc (.cells #[.int .i32 (fetch L x).x0, .int .i32 (fetch L x).y0, .int .i32 (fetch L x).x1, .int .i32 (fetch L x).y1] 39)
 have c5 := (b5.keeps (hK.trans ka) (fun h => h)).cell
 have HT := Lib.hid (htk (fetch L x) _ (hL.right _ (fetch_mem hh)) (hK.trans ka))
 rw [ht] at HT
 have hn : took L tk x = false := by simp [took, ht]
 have HI := Lib.hid (And.intro hI (And.intro hin (And.intro hn ka)))
 clear hI hin hn hB hM b3 b5 hBl hL htk hK hh ht ka
 conv => arg 4; whnf
 gi_wp2_with (refine ⟨trivial, ?_⟩; refine ((callsIn_wide.2 HT.out).inRound l).mono ?_; rintro e w6 ⟨rfl, k6⟩; have HK6 := Lib.hid k6; clear k6)
 obtain ⟨hI, hin, hn, ka⟩ := HI.out
 have kk := ka.trans HK6.out
 refine ⟨S, Foot.same (kk.mono (fun _ _ h => h.elim)), hin.mono kk.size, ?_⟩
 show TI w (fun _ => False) Bl ((pre ++ [x]).filter (took L tk)) S _
 rw [filter_snoc_no hn]
 exact hI.keeps kk (fun _ _ h => h) (fun _ _ h => h.elim)
theorem those_take (l : Nat) (told : Value) (w : World) (B off r B3 B5 Bl tf : Nat) (tb : Array Value) (tk : Bx → Bool) (L : List (Nat × Bx)) (hB : ScB w B off r) (hM : MapL kid w r (kvB L)) (b3 : Blk w B3 63 [.pointer (some ⟨B, off, none⟩)]) (b5 : Blk w B5 95 [.func (.func tf) #[] tb]) (hBl : w.heap.size ≤ Bl) (hL : OkL L) (et : ∀ args w, (callFunc tf args).run Tryz.prog w = .ok (.enter tf args) w) (htk : Takes w tf tb tk) (pre : List Nat) (x : Nat) (hx : pre.length ≤ 1000000000) (S : Nat → Prop) (W : World) (hI : TI w (fun _ => False) Bl (pre.filter (took L tk)) S W) (hin : Inb S W) (hh : hasB L x = true) (ht : tk (fetch L x) = true) : thoseB.wpIn (Fence.wide.inRound l) 7 Tryz.prog (Mem.Left (fun pre S W => TI w (fun _ => False) Bl (pre.filter (took L tk)) S W) (fun _ _ _ _ => False) (pre ++ [x]) S W) ⟨#[.pointer (some ⟨B, off, none⟩), told, .func (.func tf) #[] tb, .pointer (some ⟨B3, 0, none⟩), undef, .pointer (some ⟨B5, 0, none⟩), .nilFunc, .pointer (some ⟨Bl, 0, none⟩), .int .u32 (x : Int), undef, undef, told, .int .u32 (x : Int), undef, undef, undef, undef, undef, undef, undef, undef, undef, undef, undef, undef, undef, undef, undef, undef, undef, undef, undef, undef, undef, undef, undef, undef], []⟩ W := by
 have hK := hI.1
 have hlk := look_box (hM.keeps hK (fun h => h)) x
 rw [fetch_look, hh] at hlk
 simp only [Bx.val] at hlk
 have cB := (hB.kd hK).cell
 have c3 := (b3.keeps hK (fun h => h)).cell
 have ka := (Keeps.refl (fun _ => False) W).alloc (.cells #[.int .i32 (fetch L x).x0, .int .i32 (fetch L x).y0, .int .i32 (fetch L x).x1, .int .i32 (fetch L x).y1] 39)
 have c5 := (b5.keeps (hK.trans ka) (fun h => h)).cell
 have HT := Lib.hid (htk (fetch L x) _ (hL.right _ (fetch_mem hh)) (hK.trans ka))
 rw [ht] at HT
 have hn : took L tk x = true := by simp [took, ht, hh]
 obtain ⟨V, hV⟩ := ZE (pre.filter (took L tk))
 have hVl : V.length ≤ 1000000000 := by rw [hV]; exact Nat.le_trans (List.length_filter_le _ _) hx
 rw [← hV] at hI
 obtain ⟨hK0, sa, cp, hBb, hown0, hS⟩ := hI
 obtain ⟨i0, hi0, hz0, hz1, hz2⟩ := info_parts Gs.u32Info
 have HI := Lib.hid (And.intro hK0 (And.intro hBb (And.intro hown0 (And.intro hS (And.intro hin (And.intro hn (And.intro ka (And.intro hV (And.intro hVl hBl)))))))))
 clear hK0 hBb hown0 hS hin hn hB hM b3 b5 hBl hL htk hK hh ht ka hV hVl hx
 conv => arg 4; whnf
 gi_wp2_with (first
  | (refine ⟨trivial, ?_⟩; refine ((callsIn_wide.2 HT.out).inRound l).mono ?_; rintro e w6 ⟨rfl, k6⟩; have HK6 := Lib.hid (HI.out.2.2.2.2.2.2.1.trans k6); have HO6 := Lib.hid (owns_keeps HI.out.2.2.1 HK6.out (fun _ _ h => h)); have HB6 := Lib.hid (HI.out.2.1.keeps HK6.out (fun h => h)); have c7 := HB6.out.cell 0; simp only [List.getElem?_cons_zero] at c7; have c71 := fun o => (HB6.out.alloc o).cell 0; simp only [List.getElem?_cons_zero] at c71; clear k6)
  | (gi_at_builtin; refine wpListIn_append_own_at _ rfl (.tmp 28) (.tmp 30) 45 rfl w.heap.size 35 i0 _ 1 4 Tryz.underlying45 hi0 hz0 hz1 hz2 rfl ZAH (.slice sa V.length cp) V.length (vals V) rfl (HO6.out.alloc _) ⟨w6.heap.size, 0, none⟩ 1 1 [.int .u32 (x : Int)] rfl rfl (by exact Mem.news_new w6 _ [_]) ZA6 (by have := HI.out.2.2.2.2.2.2.2.2.1; unfold maxLen; omega) (by have := HI.out.2.2.2.2.2.2.2.2.1; omega) (by have := HI.out.1.size; have := HK6.out.size; simp only [World.size_alloc]; omega) ?_; intro v' w1 hown hgrow _ hat; obtain ⟨g', cap', rfl⟩ := ownsRow_succ hown; have h51 := (HB6.out.alloc (.cells #[.int .u32 (x : Int)] 35)).grown hgrow (own_ne HO6.out HB6.out ZAH); have HR := Lib.hid (And.intro hown (And.intro hgrow hat)); have c51 := h51.cell 0; have f51 := h51.frozen 0; simp only [List.getElem?_cons_zero] at c51; clear c7 c71 h51 hown hgrow hat))
 obtain ⟨hK0, hBb, hown0, hS, hin, hn, ka, hV, hVl, hBl⟩ := HI.out
 obtain ⟨hown, hgrow, hat⟩ := HR.out
 obtain ⟨_, S', hf, hin', hT⟩ := TI.grow (U := [x]) hK0 hBb hown0 hS hBl (HK6.out.alloc _) (by simpa [vals] using hown) hgrow hat
 refine ⟨S', hf, hin', ?_⟩
 show TI w (fun _ => False) Bl ((pre ++ [x]).filter (took L tk)) S' _
 rw [filter_snoc_yes hn, ← hV]
 exact hT
theorem those_round (l : Nat) (told : Value) (w : World) (B off r B3 B5 Bl tf : Nat) (tb : Array Value) (tk : Bx → Bool) (L : List (Nat × Bx)) (hB : ScB w B off r) (hM : MapL kid w r (kvB L)) (b3 : Blk w B3 63 [.pointer (some ⟨B, off, none⟩)]) (b5 : Blk w B5 95 [.func (.func tf) #[] tb]) (hBl : w.heap.size ≤ Bl) (hL : OkL L) (et : ∀ args w, (callFunc tf args).run Tryz.prog w = .ok (.enter tf args) w) (htk : Takes w tf tb tk) (pre : List Nat) (x : Nat) (hx : pre.length ≤ 1000000000) (S : Nat → Prop) (W : World) (hI : TI w (fun _ => False) Bl (pre.filter (took L tk)) S W) (hin : Inb S W) : thoseB.wpIn (Fence.wide.inRound l) 7 Tryz.prog (Mem.Left (fun pre S W => TI w (fun _ => False) Bl (pre.filter (took L tk)) S W) (fun _ _ _ _ => False) (pre ++ [x]) S W) ⟨#[.pointer (some ⟨B, off, none⟩), told, .func (.func tf) #[] tb, .pointer (some ⟨B3, 0, none⟩), undef, .pointer (some ⟨B5, 0, none⟩), .nilFunc, .pointer (some ⟨Bl, 0, none⟩), .int .u32 (x : Int), undef, undef, told, .int .u32 (x : Int), undef, undef, undef, undef, undef, undef, undef, undef, undef, undef, undef, undef, undef, undef, undef, undef, undef, undef, undef, undef, undef, undef, undef, undef], []⟩ W := by
 cases hh : hasB L x
 ·exact those_skip l told w B off r B3 B5 Bl tf tb tk L hB hM b3 b5 hBl hL et htk pre x hx S W hI hin hh
 ·cases ht : tk (fetch L x)
  ·exact those_not l told w B off r B3 B5 Bl tf tb tk L hB hM b3 b5 hBl hL et htk pre x hx S W hI hin hh ht
  ·exact those_take l told w B off r B3 B5 Bl tf tb tk L hB hM b3 b5 hBl hL et htk pre x hx S W hI hin hh ht
end Fi
open Go.RowKit Go.Shelf
namespace Fi
open Mem Gr Gs
open So (vals)
theorem those_t (w : World) (B off r : Nat) (L : List (Nat × Bx)) (hB : ScB w B off r) (hM : MapL kid w r (kvB L)) (hL : OkL L)
 (gf : Nat) (lb : Array Value) (Nx : List Nat → Nat → Prop) (Fin : List Nat → Prop) (A : (Nat → Prop) → Prop) (eg : ∀ args w, (callFunc gf args).run Tryz.prog w = .ok (.enter gf args) w)
 (hseq : ∀ W1, Keeps (fun _ => False) w W1 → GivesP Tryz.prog 8 gf lb (fun x : Nat => #[.int .u32 (x : Int)]) Nx Fin W1 A (fun _ => False)) (hA : ∀ S, (∀ k, S k → w.heap.size ≤ k) → A S)
 (hNx : ∀ pre x, Nx pre x → pre.length ≤ 1000000000) (hFn : ∀ ys, Fin ys → ys.length ≤ 1000000000)
 (tf : Nat) (tb : Array Value) (tk : Bx → Bool) (et : ∀ args w, (callFunc tf args).run Tryz.prog w = .ok (.enter tf args) w) (htk : Takes w tf tb tk)
 (hall : ∀ ys, Fin ys → ∀ id b, (id, b) ∈ L → tk b = true → id ∈ ys) :
 Calls Tryz.prog 75 #[.pointer (some ⟨B, off, none⟩), .func (.func gf) #[] lb, .func (.func tf) #[] tb] w (fun e w' => ∃ VB V, e = .returned (.func (.func 92) #[] #[.pointer (some ⟨VB, 0, none⟩)]) ∧ Keeps (fun _ => False) w w' ∧ Vals w.heap.size w' VB V ∧ Ans L (fun b => tk b = true) V) := by
 have k2 : Keeps (fun _ => False) w ((w.alloc (.cells #[.pointer (some ⟨B, off, none⟩)] 63)).alloc (.cells #[.func (.func tf) #[] tb] 95)) := by (repeat (first | exact Keeps.refl _ _ | refine Keeps.alloc ?_ _ | refine Keeps.drew ?_))
 have b3 := (Blk.new w 63 [.pointer (some ⟨B, off, none⟩)]).alloc (.cells #[.func (.func tf) #[] tb] 95)
 have b5 := Blk.new (w.alloc (.cells #[.pointer (some ⟨B, off, none⟩)] 63)) 95 [.func (.func tf) #[] tb]
 simp only [World.size_alloc] at b3 b5
 have hB3 := hB.kd k2
 have hM3 := hM.keeps k2 (fun h => h)
 have htk3 : Takes ((w.alloc (.cells #[.pointer (some ⟨B, off, none⟩)] 63)).alloc (.cells #[.func (.func tf) #[] tb] 95)) tf tb tk := fun b W h k => htk b W h (k2.trans k)
 have HH := Lib.hid (And.intro hseq (And.intro hA (And.intro hNx (And.intro hFn (And.intro hall (And.intro hL k2))))))
 have HR := Lib.hid (And.intro hB3 (And.intro hM3 (And.intro b3 (And.intro b5 htk3))))
 clear hB hM hL hseq hA hNx hFn htk hall k2 b3 b5 hB3 hM3 htk3
 refine (callsIn_wide (n := 9)).1 ?_
 refine callsIn_of_wp_marks Tryz.func75 rfl trivial ?_ rfl
 simp only [Tryz.ntmps75, List.size_toArray, List.length_cons, List.length_nil, Nat.reduceAdd, Nat.reduceSub, Array.replicate_succ, Array.replicate_zero, List.push_toArray, List.append_toArray, List.nil_append, List.cons_append]
 gi_wp2
 obtain ⟨w2, hw2⟩ := ZE (((w.alloc (.cells #[.pointer (some ⟨B, off, none⟩)] 63)).alloc (.cells #[.func (.func tf) #[] tb] 95)))
 have hz2 : w2.heap.size = w.heap.size + 1 + 1 := by rw [hw2]; simp
 have HK2 := Lib.hid (show Keeps (fun _ => False) w w2 from by rw [hw2]; exact HH.out.2.2.2.2.2.2)
 rw [← hw2] at HR ⊢
 clear hw2
 obtain ⟨wr, hwr⟩ := ZE (w2.alloc (.cells #[.slice none 0 0] 45))
 have hzr : wr.heap.size = w.heap.size + 1 + 1 + 1 := by rw [hwr, World.size_alloc, hz2]
 have HW := Lib.hid (show Keeps (fun _ => False) w2 wr ∧ Blk wr (w.heap.size + 1 + 1) 45 [.slice none 0 0] from by rw [hwr, ← hz2]; exact ⟨(Keeps.refl _ _).alloc _, Blk.new _ _ _⟩)
 rw [← hwr]
 clear hwr
 refine wpIn_rangeP (gf := gf) (lb := lb) (encs := fun x : Nat => #[.int .u32 (x : Int)]) (Nx := Nx) (Fin := Fin) (A := A) (O := fun _ => False) rfl eg (fun k hk => hk.elim)
  (fun W1 hk => HH.out.1 W1 ((HK2.out.trans HW.out.1).trans hk)) (fun _ => rfl)
  (fun pre S W => TI w2 (fun _ => False) (w.heap.size + 1 + 1) (pre.filter (took L tk)) S W) (fun _ _ _ _ => False) (ti_stab Z8 _) (fun _ _ _ _ _ _ h => h.elim)
  (fun k => k = w.heap.size + 1 + 1) (fun k hk => by rw [hk]; omega) ⟨HW.out.1, none, 0, HW.out.2, World.ownsRow_nil _ _ _ _, fun k => by simp [Value.ownBlock]⟩ (fun S W1 W2 hI hin hk => hI.keeps hk (fun _ _ h => h) (fun _ _ h => h.elim)) (fun S hS => HH.out.2.1 S (fun k hk => by rcases hS k hk with h | h <;> omega))
  (Tree.WithAct (fun pre S W => TI w2 (fun _ => False) (w.heap.size + 1 + 1) (pre.filter (took L tk)) S W) (fun x => ⟨#[.pointer (some ⟨B, off, none⟩), .func (.func gf) #[] lb, .func (.func tf) #[] tb, .pointer (some ⟨w.heap.size, 0, none⟩), undef, .pointer (some ⟨w.heap.size + 1, 0, none⟩), .nilFunc, .pointer (some ⟨w.heap.size + 1 + 1, 0, none⟩), .int .u32 ((x : Nat) : Int), undef, undef, .func (.func gf) #[] lb, .int .u32 ((x : Nat) : Int), undef, undef, undef, undef, undef, undef, undef, undef, undef, undef, undef, undef, undef, undef, undef, undef, undef, undef, undef, undef, undef, undef, undef, undef], []⟩)) (Tree.WithAct.stab _ (ti_stab Z8 _)) ?assign ?body ?done ?stop
 case assign =>
  intro l pre x S W hxs hI hin hlt
  gi_wp2
  exact ⟨S, Foot.refl _ _, hin, hI, rfl⟩
 case body =>
  rintro l pre x a1 S W hxs ⟨hI, ha⟩ hin hlt _
  simp only at ha
  subst ha
  exact those_round l _ w2 B off r w.heap.size (w.heap.size + 1) (w.heap.size + 1 + 1) tf tb tk L HR.out.1 HR.out.2.1 HR.out.2.2.1 HR.out.2.2.2.1 Z8 HH.out.2.2.2.2.2.1 et HR.out.2.2.2.2 pre x (HH.out.2.2.1 pre x hxs) S W hI hin
 case stop =>
  intro D0 c0 pre S' W' hD hnD hf hin hx
  exact hx.elim
 case done =>
  rintro D0 ys S' W' hys hD hnD hf hin ⟨hK5, a5, c5, hb5, ho5, hS5⟩ hDD
  obtain ⟨V, hV⟩ := ZE (ys.filter (took L tk))
  rw [← hV] at hb5 ho5 hS5
  have hmV : ∀ id, id ∈ V ↔ ∃ b, (id, b) ∈ L ∧ tk b = true := fun id => by
   rw [hV, List.mem_filter, took_iff HH.out.2.2.2.2.2.1]
   exact ⟨fun h => h.2, fun ⟨b, hb, ht⟩ => ⟨HH.out.2.2.2.2.1 ys hys id b hb ht, b, hb, ht⟩⟩
  have hVl : V.length ≤ 1000000000 := by rw [hV]; exact Nat.le_trans (List.length_filter_le _ _) (HH.out.2.2.2.1 ys hys)
  have cB := hb5.cell 0
  simp only [List.getElem?_cons_zero] at cB
  have hDl : D0 < W'.heap.size := (Array.getElem?_eq_some_iff.1 hDD).1
  have hKw : Keeps (fun _ => False) w W' := HK2.out.trans hK5
  have hzW := hK5.size
  have hparts := ho5.2
  have HD := Lib.hid (And.intro hD (And.intro hnD (And.intro hDD (And.intro hDl (And.intro hS5 (And.intro hb5 (And.intro ho5 (And.intro hmV (And.intro hKw (And.intro hVl hzW))))))))))
  clear hD hnD hDD hDl hS5 hb5 ho5 hmV hKw hK5 hf hin hV hzW hVl hys
  rcases hparts with ⟨hnil, h0⟩ | ⟨g, cap, cur, hsl, _⟩
  ·obtain ⟨n, hn⟩ := ZE V.length
   rw [← hn] at cB hnil h0
   have hn1 : n ≤ 1 := by omega
   have HN := Lib.hid (And.intro hn h0)
   clear hn h0 hnil
   gi_wp2_with (first
    | (refine ⟨trivial, ?_⟩; gi_at_call 80; refine (callsIn_wide.2 (sort1 _ _ _ hn1 _)).mono ?_; rintro e w1 ⟨⟨v, rfl⟩, rfl⟩)
    | (refine ⟨trivial, ?_⟩; gi_at_call 82; refine (callsIn_wide.2 (compact1 _ _ _ hn1 _)).mono ?_; rintro e w1 ⟨rfl, rfl⟩)
    | (refine ⟨trivial, ?_⟩; gi_at_call 81; refine (callsIn_wide.2 (values_any _ _ _ _)).mono ?_; rintro e w1 ⟨rfl, rfl⟩))
   obtain ⟨hD, hnD, hDD, hDl, hS5, hb5, ho5, hmV, hKw, hVl, hzW⟩ := HD.out
   have hDD2 : (W'.alloc (.cells #[.slice a5 n c5] 45)).heap[D0]? = some (.deferred (some [])) := (Below.heap_alloc _ _ _ hDl).trans hDD
   have kp := keeps_putObj (W'.alloc (.cells #[.slice a5 n c5] 45)) D0 (.deferred none)
   have HP := Lib.hid kp
   clear kp
   refine ⟨ZA7, .inl ⟨_, _, rfl, run_takeDeferred hDD2, ?_⟩⟩
   have hb := Blk.new W' 45 [.slice a5 n c5]
   have hVe : V = [] := List.length_eq_zero_iff.1 ZAs
   refine ⟨_, results_tmp rfl _ _ _, W'.heap.size, V, rfl, ?_, ⟨Z8, a5, c5, ?_, ?_⟩, by rw [hVe]; simp, hmV⟩
   ·exact (hKw.alloc _).then HP.out (fun i hi e => Z8)
   ·have := hb.keeps HP.out (fun e => Z8)
    simpa [HN.out.1] using this
   ·have h6 := own_mono (base' := w.heap.size) ho5 Z8
    have h7 : (W'.alloc (.cells #[.slice a5 n c5] 45)).ownsRow w.heap.size 35 1 (.slice a5 V.length c5) V.length (vals V) := h6.alloc _
    exact owns_keeps h7 HP.out (fun b hb e => hnD (e ▸ (hS5 _).2 (.inr hb)))
  ·simp only [Value.slice.injEq] at hsl
   obtain ⟨rfl, _, rfl⟩ := hsl
   have hso := So.sort_own HD.out.2.2.2.2.2.2.1 HD.out.2.2.2.2.2.2.2.2.2.1
   have HSo := Lib.hid hso
   have hneB : w.heap.size + 1 + 1 ≠ g := fun e => by
    have := own_ne HD.out.2.2.2.2.2.2.1 HD.out.2.2.2.2.2.1 ZAH
    simp [Value.ownBlock] at this; omega
   obtain ⟨n, hn⟩ := ZE V.length
   rw [← hn] at cB hso
   have HN := Lib.hid (And.intro hn hneB)
   clear hn hneB hso
   have hso2 : Calls Tryz.prog 80 #[.slice (some ⟨g, 0, none⟩) n c5] W' fun e w' => e = .returned (.tuple #[]) ∧ w'.cell? ⟨w.heap.size + 1 + 1, 0, none⟩ = some (.slice (some ⟨g, 0, none⟩) n c5) ∧ Keeps (fun k => k = g) W' w' ∧ Calls Tryz.prog 82 #[.slice (some ⟨g, 0, none⟩) n c5] w' (fun e w2 => ∃ C, e = .returned (.slice (some ⟨g, 0, none⟩) C.length c5) ∧ C.Pairwise (· < ·) ∧ (∀ x, x ∈ C ↔ x ∈ V) ∧ w2.ownsRow (w.heap.size + 1 + 1) 35 1 (.slice (some ⟨g, 0, none⟩) C.length c5) C.length (vals C) ∧ Keeps (fun k => k = g) W' w2) := by
    have h1 := HSo.out
    rw [← HN.out.1] at h1
    refine Calls.mono h1 ?_
    rintro e w5 ⟨rfl, D, hDl, hDs, hDm, hDo, hDk⟩
    have hDo' : w5.ownsRow w2.heap.size 35 1 (.slice (some ⟨g, 0, none⟩) D.length c5) D.length (vals D) := by rw [hDl]; exact hDo
    refine ⟨rfl, ?_, hDk, ?_⟩
    ·have := (HD.out.2.2.2.2.2.1.keeps hDk (fun e => HN.out.2 e)).cell 0
     rw [← HN.out.1] at this
     simpa using this
    ·have h2 := So.compact_own hDo' hDs
     rw [hDl] at h2
     refine Calls.mono h2 ?_
     rintro e w6 ⟨C, rfl, hC1, hC2, _, hC4, hC5⟩
     refine ⟨C, rfl, hC1, fun x => (hC2 x).trans (hDm x), ?_, hDk.trans hC5⟩
     rw [hz2] at hC4; exact hC4
   clear HSo
   have HSo := Lib.hid hso2
   clear hso2
   gi_wp2_with (first
    | (refine ⟨trivial, ?_⟩; gi_at_call 80; refine (callsIn_wide.2 HSo.out).mono ?_; rintro e w6 ⟨rfl, cB6, hk6, hcp⟩; have HK6 := Lib.hid hk6; have HCp := Lib.hid hcp; clear hk6 hcp cB)
    | (refine ⟨trivial, ?_⟩; gi_at_call 82; refine (callsIn_wide.2 HCp.out).mono ?_; rintro e w7 ⟨C, rfl, hC⟩; have HC := Lib.hid hC; clear hC)
    | (refine ⟨trivial, ?_⟩; gi_at_call 81; refine (callsIn_wide.2 (values_any _ _ _ _)).mono ?_; rintro e w8 ⟨rfl, rfl⟩))
   obtain ⟨hD, hnD, hDD, hDl, hS5, hb5, ho5, hmV, hKw, hVl, hzW⟩ := HD.out
   obtain ⟨hC1, hC2, hC4, hC5⟩ := HC.out
   have hgD : D0 ≠ g := fun e => hnD ((hS5 D0).2 (.inr (by simp [Value.ownBlock, e])))
   have hDD6 := (hC5.block D0 hDl hgD).trans hDD
   have hDl6 : D0 < w7.heap.size := (Array.getElem?_eq_some_iff.1 hDD6).1
   have hDD2 : (w7.alloc (.cells #[.slice (some ⟨g, 0, none⟩) C.length c5] 45)).heap[D0]? = some (.deferred (some [])) := (Below.heap_alloc _ _ _ hDl6).trans hDD6
   have kp := keeps_putObj (w7.alloc (.cells #[.slice (some ⟨g, 0, none⟩) C.length c5] 45)) D0 (.deferred none)
   have HP := Lib.hid kp
   clear kp
   refine ⟨ZA7, .inl ⟨_, _, rfl, run_takeDeferred hDD2, ?_⟩⟩
   have hz7 := hC5.size
   have hgl := (ho5.lt g rfl).1
   exact Za
end Fi
open Go.RowKit Go.Shelf
namespace Fi
open Mem Gr Gs
open So (vals)
def TellA (L : List (Nat × Bx)) (tk : Bx → Prop) (w : World) (e : Ending) (w' : World) : Prop := ∃ VB V, e = .returned (.func (.func 92) #[] #[.pointer (some ⟨VB, 0, none⟩)]) ∧ Keeps (fun _ => False) w w' ∧ Vals w.heap.size w' VB V ∧ Ans L tk V
theorem TellA.congr {L : List (Nat × Bx)} {tk tk' : Bx → Prop} {w w' : World} {e : Ending} (h : TellA L tk w e w') (he : ∀ id b, (id, b) ∈ L → (tk b ↔ tk' b)) : TellA L tk' w e w' := by
 obtain ⟨VB, V, h1, h2, h3, h4⟩ := h
 exact ⟨VB, V, h1, h2, h3, h4.congr he⟩
section
variable {w : World} {B off r : Nat} {L : List (Nat × Bx)}
theorem keys_of {E : List (Nat × Value × Nat)} (h : kvs E = kvB L) : E.map (·.1) = L.map (·.1) := by
 have : (kvs E).map (·.1) = (kvB L).map (·.1) := by rw [h]
 rw [kvs_keys] at this
 rw [this]; simp [kvB, Function.comp_def]
theorem those_keys (hB : ScB w B off r) (hM : MapL kid w r (kvB L)) (hL : OkL L) (PB : Nat) (hP : Blk w PB 60 [.map (some r)])
 (tf : Nat) (tb : Array Value) (tk : Bx → Bool) (et : ∀ args w, (callFunc tf args).run Tryz.prog w = .ok (.enter tf args) w) (htk : Takes w tf tb tk) :
 Calls Tryz.prog 75 #[.pointer (some ⟨B, off, none⟩), .func (.func 83) #[] #[.pointer (some ⟨PB, 0, none⟩)], .func (.func tf) #[] tb] w (TellA L (fun b => tk b = true) w) := by
 obtain ⟨E, clock, hE, hkv⟩ := id hM
 have hk := keys_of hkv
 have hl : E.length = L.length := by
  have := congrArg List.length hk
  simpa using this
 have hl2 := hL.len
 refine those_t w B off r L hB hM hL _ _ (KNx E) (KFin E) (fun S => ¬ S r) (enters_of Tryz.func83 ZAB rfl)
  (fun W1 k => keys1_gives 8 PB r clock E W1 (hP.keeps k (fun h => h)) (hE.keeps k (fun h => h))) (fun S hS h => by have := hS r h; have := hM.lt; omega)
  (fun pre x h => by have := h.2; omega) (fun ys h => by have := h.2; omega) tf tb tk et htk (fun ys h id b hb _ => h.1 id (by rw [hk]; exact List.mem_map.2 ⟨_, hb, rfl⟩))
theorem those_list (hB : ScB w B off r) (hM : MapL kid w r (kvB L)) (hL : OkL L) (gf : Nat) (lb : Array Value) (xs : List Nat) (A : (Nat → Prop) → Prop) (eg : ∀ args w, (callFunc gf args).run Tryz.prog w = .ok (.enter gf args) w)
 (hg : ∀ W1, Keeps (fun _ => False) w W1 → Gives Tryz.prog 8 gf lb (fun x : Nat => #[.int .u32 (x : Int)]) xs W1 A) (hA : ∀ S, (∀ k, S k → w.heap.size ≤ k) → A S) (hl : xs.length ≤ 65536)
 (tf : Nat) (tb : Array Value) (tk : Bx → Bool) (et : ∀ args w, (callFunc tf args).run Tryz.prog w = .ok (.enter tf args) w) (htk : Takes w tf tb tk) (hall : ∀ id b, (id, b) ∈ L → tk b = true → id ∈ xs) :
 Calls Tryz.prog 75 #[.pointer (some ⟨B, off, none⟩), .func (.func gf) #[] lb, .func (.func tf) #[] tb] w (TellA L (fun b => tk b = true) w) := by
 refine those_t w B off r L hB hM hL gf lb (fun pre x => ∃ rest, xs = pre ++ x :: rest) (fun ys => ys = xs) A eg (fun W1 k => GivesP.of (hg W1 k)) hA ?_ (fun ys h => by rw [h]; omega) tf tb tk et htk (fun ys h id b hb ht => by rw [h]; exact hall id b hb ht)
 rintro pre x ⟨rest, e⟩
 rw [e] at hl
 simp at hl
 omega
theorem those_vals (hB : ScB w B off r) (hM : MapL kid w r (kvB L)) (hL : OkL L) {base VB : Nat} {V : List Nat} (hV : Vals base w VB V) (hl : V.length ≤ 65536)
 (tf : Nat) (tb : Array Value) (tk : Bx → Bool) (et : ∀ args w, (callFunc tf args).run Tryz.prog w = .ok (.enter tf args) w) (htk : Takes w tf tb tk) (hall : ∀ id b, (id, b) ∈ L → tk b = true → id ∈ V) :
 Calls Tryz.prog 75 #[.pointer (some ⟨B, off, none⟩), .func (.func 92) #[] #[.pointer (some ⟨VB, 0, none⟩)], .func (.func tf) #[] tb] w (TellA L (fun b => tk b = true) w) := by
 obtain ⟨_, a, cp, hb, ho⟩ := hV
 refine those_list hB hM hL _ _ V (fun S => ∀ k, S k → ¬ Tree.rowOf (.slice a V.length cp) k) (enters_of Tryz.func92 ZAB rfl)
  (fun W1 k => Tree.values1_gives 8 VB (.slice a V.length cp) V W1 Z8 ZA1 (Tree.U32s.of_own (owns_keeps ho k (fun _ _ h => h)))) (fun S hS k hk hr => ?_) hl tf tb tk et htk hall
 obtain ⟨a', n', c', e1, e2⟩ := hr
 simp only [Value.slice.injEq] at e1
 obtain ⟨rfl, _, _⟩ := e1
 have := (ho.lt k (by simp [Value.ownBlock, e2])).2
 have := hS k hk
 omega
def rangeL (L : List (Nat × Tree.Bx)) (c : Tree.Bx) : List Nat := (L.filter fun p => p.2.meet c).map (·.1)
theorem hits_range (c : Tree.Bx) (t : Tree.BT) : Tree.idsOf (Tree.hits c t) = rangeL (Tree.BT.inord t) c := by
 unfold Tree.idsOf Tree.hits rangeL
 rw [← Tree.nodes_inord, List.filter_map, List.map_map]
 rfl
theorem tree_gives (w : World) (T : Nat) (S : Nat → Prop) (L : List (Nat × Tree.Bx)) (B1 B2 : Nat) (c : Tree.Bx) (h1 : Blk w B1 70 [.pointer (some ⟨T, 0, none⟩)]) (h2 : Blk w B2 39 [.int .i32 c.x0, .int .i32 c.y0, .int .i32 c.x1, .int .i32 c.y1]) (h : Tree.TrS w T S L) (W1 : World) (hk : Keeps (fun _ => False) w W1) :
 Gives Tryz.prog 8 160 #[.pointer (some ⟨B1, 0, none⟩), .pointer (some ⟨B2, 0, none⟩)] (fun x : Nat => #[.int .u32 (x : Int)]) (rangeL L c) W1 (fun _ => True) := by
 have hl : (rangeL L c).length ≤ 1000000 := by
  obtain ⟨_, _, _, _, _, _, _, h6, _⟩ := h
  have : (rangeL L c).length ≤ L.length := by unfold rangeL; rw [List.length_map]; exact List.length_filter_le _ _
  omega
 refine Tree.range1_gives 8 B1 B2 _ c _ W1 hl (h1.keeps hk (fun h => h)) (h2.keeps hk (fun h => h)) ?_
 obtain ⟨r, t, hH, hM, he, hR, hI, hl', hS⟩ := h.kd hk
 have hf := hits_range c t
 rw [he] at hf
 have := Tree.found_t T r t c W1 hH (by
  have e : (Tree.hits c t).length = (rangeL L c).length := by rw [← hf]; simp [Tree.idsOf]
  omega)
 rw [hf] at this
 exact this
theorem mem_range {Lt : List (Nat × Tree.Bx)} {c : Tree.Bx} {id : Nat} : id ∈ rangeL Lt c ↔ ∃ t, (id, t) ∈ Lt ∧ t.meet c = true := by
 unfold rangeL
 simp only [List.mem_map, List.mem_filter]
 constructor
 ·rintro ⟨⟨i, t⟩, ⟨h1, h2⟩, rfl⟩; exact ⟨t, h1, h2⟩
 ·rintro ⟨t, h1, h2⟩; exact ⟨_, ⟨h1, h2⟩, rfl⟩
theorem those_tree (hB : ScB w B off r) (hM : MapL kid w r (kvB L)) (hL : OkL L) (T : Nat) (S : Nat → Prop) (Lt : List (Nat × Tree.Bx)) (B1 B2 : Nat) (c : Tree.Bx) (h1 : Blk w B1 70 [.pointer (some ⟨T, 0, none⟩)]) (h2 : Blk w B2 39 [.int .i32 c.x0, .int .i32 c.y0, .int .i32 c.x1, .int .i32 c.y1]) (h : Tree.TrS w T S Lt) (hw : Tw L Lt)
 (tf : Nat) (tb : Array Value) (tk : Bx → Bool) (et : ∀ args w, (callFunc tf args).run Tryz.prog w = .ok (.enter tf args) w) (htk : Takes w tf tb tk) (hall : ∀ id b, (id, b) ∈ L → tk b = true → (toT b).meet c = true) :
 Calls Tryz.prog 75 #[.pointer (some ⟨B, off, none⟩), .func (.func 160) #[] #[.pointer (some ⟨B1, 0, none⟩), .pointer (some ⟨B2, 0, none⟩)], .func (.func tf) #[] tb] w (TellA L (fun b => tk b = true) w) := by
 refine those_list hB hM hL _ _ (rangeL Lt c) (fun _ => True) (enters_of Tryz.func160 ZAB rfl) (fun W1 k => tree_gives w T S Lt B1 B2 c h1 h2 h W1 k) (fun _ _ => trivial) ?_ tf tb tk et htk (fun id b hb ht => mem_range.2 ⟨toT b, (hw id b).2 hb, hall id b hb ht⟩)
 obtain ⟨_, _, _, _, _, _, _, h6, _⟩ := h
 have : (rangeL Lt c).length ≤ Lt.length := by unfold rangeL; rw [List.length_map]; exact List.length_filter_le _ _
 omega
end
/-! what takes -/
theorem covers_takes (px py : Int) (PB : Nat) (w : World) (hP : Blk w PB 37 [.int .i32 px, .int .i32 py]) : Takes w 84 #[.pointer (some ⟨PB, 0, none⟩)] (fun b => decide (coversP px py b)) :=
 fun b W1 _ k => covers1_t px py b PB W1 (hP.keeps k (fun h => h))
theorem meets_takes_off (w : World) : Takes w 86 #[] (fun _ => false) := fun b W1 _ k => meets1_t b W1
theorem meets_takes (px py qx qy : Int) (PB QB : Nat) (w : World) (hP : Blk w PB 37 [.int .i32 px, .int .i32 py]) (hQ : Blk w QB 37 [.int .i32 qx, .int .i32 qy]) (hp : On px py) (hq : On qx qy) : Takes w 87 #[.pointer (some ⟨PB, 0, none⟩), .pointer (some ⟨QB, 0, none⟩)] (fun b => decide (meetsP px py qx qy b)) :=
 fun b W1 hb k => meets2_t px py qx qy b PB QB W1 (hP.keeps k (fun h => h)) (hQ.keeps k (fun h => h)) hp hq hb
theorem ent_covers : ∀ args w, (callFunc 84 args).run Tryz.prog w = .ok (.enter 84 args) w := enters_of Tryz.func84 ZAB rfl
theorem ent_meets1 : ∀ args w, (callFunc 86 args).run Tryz.prog w = .ok (.enter 86 args) w := enters_of Tryz.func86 ZAB rfl
theorem ent_meets2 : ∀ args w, (callFunc 87 args).run Tryz.prog w = .ok (.enter 87 args) w := enters_of Tryz.func87 ZAB rfl
end Fi
open Go.RowKit Go.Shelf
namespace Fi
open Mem Gr Gs
open So (vals)
theorem vals_low {base base' : Nat} {w : World} {VB : Nat} {V : List Nat} (h : Vals base w VB V) (hb : base' ≤ base) : Vals base' w VB V := by
 obtain ⟨h1, a, cp, h2, h3⟩ := h
 exact ⟨Nat.le_trans hb h1, a, cp, h2, own_mono h3 hb⟩
theorem vals_kd {base : Nat} {w w' : World} {VB : Nat} {V : List Nat} (h : Vals base w VB V) (hk : Keeps (fun _ => False) w w') : Vals base w' VB V := by
 obtain ⟨h1, a, cp, h2, h3⟩ := h
 exact ⟨h1, a, cp, h2.keeps hk (fun h => h), owns_keeps h3 hk (fun _ _ h => h)⟩
def Cand (w : World) (B off r : Nat) (L : List (Nat × Bx)) (Q : Bx → Prop) (tv : Value) : Prop :=
 ∀ W, Keeps (fun _ => False) w W → ∀ tf tb tk, (∀ args w, (callFunc tf args).run Tryz.prog w = .ok (.enter tf args) w) → Takes W tf tb tk → (∀ b, Right b → tk b = true → Q b) →
  Calls Tryz.prog 75 #[.pointer (some ⟨B, off, none⟩), tv, .func (.func tf) #[] tb] W (TellA L (fun b => tk b = true) W)
theorem Cand.kd {w w' : World} {B off r : Nat} {L : List (Nat × Bx)} {Q : Bx → Prop} {tv : Value} (h : Cand w B off r L Q tv) (k : Keeps (fun _ => False) w w') : Cand w' B off r L Q tv := fun W k' => h W (k.trans k')
def Pick (w : World) (Q : Bx → Prop) (v : Value) : Prop :=
 ∃ tf tb tk, v = .func (.func tf) #[] tb ∧ (∀ args w, (callFunc tf args).run Tryz.prog w = .ok (.enter tf args) w) ∧ Takes w tf tb tk ∧ ∀ b, Right b → (tk b = true ↔ Q b)
def tkC (px py qx qy : Int) (b : Bx) : Prop := On px py ∧ On qx qy ∧ meetsP px py qx qy b
theorem pick_covers (px py : Int) (w : World) : Calls Tryz.prog 77 #[.agg #[.int .i32 px, .int .i32 py]] w fun e w' => ∃ v, e = .returned v ∧ Keeps (fun _ => False) w w' ∧ Pick w' (coversP px py) v := by
 refine (covers_t px py w).mono ?_
 rintro e w' ⟨rfl, rfl⟩
 exact ⟨_, rfl, (Keeps.refl _ w).alloc _, _, _, _, rfl, ent_covers, covers_takes px py _ _ (Blk.new w 37 [.int .i32 px, .int .i32 py]), fun b _ => ZA7⟩
theorem pick_meets (px py qx qy : Int) (w : World) : Calls Tryz.prog 78 #[.agg #[.int .i32 px, .int .i32 py], .agg #[.int .i32 qx, .int .i32 qy]] w fun e w' => ∃ v, e = .returned v ∧ Keeps (fun _ => False) w w' ∧ Pick w' (tkC px py qx qy) v := by
 by_cases hm : On px py ∧ On qx qy
 ·refine (meets_on px py qx qy hm.1 hm.2 w).mono ?_
  rintro e w' ⟨PB, QB, rfl, k, h1, h2⟩
  exact ⟨_, rfl, k, _, _, _, rfl, ent_meets2, meets_takes px py qx qy PB QB w' h1 h2 hm.1 hm.2, fun b _ => by simp [tkC, hm.1, hm.2]⟩
 ·refine (meets_off px py qx qy hm w).mono ?_
  rintro e w' ⟨rfl, k⟩
  exact ⟨_, rfl, k, _, _, _, rfl, ent_meets1, meets_takes_off w', fun b _ => by simp [tkC]; intro h1 h2; exact absurd ⟨h1, h2⟩ hm⟩
section
variable {w : World} {B off r : Nat} {L : List (Nat × Bx)}
theorem Cand.tell {Q Q' : Bx → Prop} {tv pv : Value} (h : Cand w B off r L Q tv) (hp : Pick w Q' pv) (hL : OkL L) (hq : ∀ b, Right b → Q' b → Q b) : Calls Tryz.prog 75 #[.pointer (some ⟨B, off, none⟩), tv, pv] w (TellA L Q' w) := by
 obtain ⟨tf, tb, tk, rfl, et, ht, hi⟩ := hp
 refine (h w (Keeps.refl _ w) tf tb tk et ht (fun b hb h => hq b hb ((hi b hb).1 h))).mono ?_
 intro e w' h
 exact h.congr (fun id b hb => hi b (hL.right _ hb))
theorem cand_keys (hB : ScB w B off r) (hM : MapL kid w r (kvB L)) (hL : OkL L) : Calls Tryz.prog 76 #[.map (some r)] w fun e w' => ∃ v, e = .returned v ∧ Keeps (fun _ => False) w w' ∧ Cand w' B off r L (fun _ => True) v := by
 refine (keys_t r w).mono ?_
 rintro e w' ⟨rfl, rfl⟩
 have ka := (Keeps.refl (fun _ => False) w).alloc (.cells #[.map (some r)] 60)
 exact ⟨_, rfl, ka, fun W k tf tb tk et ht _ => those_keys (hB.kd (ka.trans k)) (hM.keeps (ka.trans k) (fun h => h)) hL _ ((Blk.new w 60 [.map (some r)]).keeps k (fun h => h)) tf tb tk et ht⟩
theorem scan_at (hB : ScB w B off r) (hM : MapL kid w r (kvB L)) (hL : OkL L) (px py : Int) : Calls Tryz.prog 70 #[.pointer (some ⟨B, off, none⟩), .agg #[.int .i32 px, .int .i32 py]] w (TellA L (coversP px py) w) := by
 have k1 : Keeps (fun _ => False) w (w.alloc (.cells #[.int .i32 px, .int .i32 py] 37)) := by (repeat (first | exact Keeps.refl _ _ | refine Keeps.alloc ?_ _ | refine Keeps.drew ?_))
 have HSN := Lib.hid (show ∀ W', Keeps (fun _ => False) (w.alloc (.cells #[.int .i32 px, .int .i32 py] 37)) W' → (W'.cell? ⟨B, off, none⟩ = some (.map (some r)) ∧ ∀ i : Nat, W'.cell? ⟨w.heap.size, i, none⟩ = ([.int .i32 px, .int .i32 py] : List Value)[i]?) from fun W' hk => ⟨(hB.kd (k1.trans hk)).cell, ((Blk.new w 37 [.int .i32 px, .int .i32 py]).keeps hk (fun h => h)).cell⟩)
 have HC := Lib.hid (fun W' (hk : Keeps (fun _ => False) (w.alloc (.cells #[.int .i32 px, .int .i32 py] 37)) W') => cand_keys (hB.kd (k1.trans hk)) (hM.keeps (k1.trans hk) (fun h => h)) hL)
 have HT := Lib.hid (fun W' tv pv (h : Cand W' B off r L (fun _ => True) tv) (hp : Pick W' (coversP px py) pv) => h.tell hp hL (fun _ _ _ => trivial))
 have HK := Lib.hid k1
 clear hB hM hL k1
 go_enter Tryz.func70, Tryz.ntmps70
 go_wp2
 go_region_held3 (fun W => (W.cell? ⟨B, off, none⟩ = some (.map (some r)) ∧ ∀ i : Nat, W.cell? ⟨w.heap.size, i, none⟩ = ([.int .i32 px, .int .i32 py] : List Value)[i]?)) (first | with_reducible assumption | exact HSN.out _ Z6) (first
  | (go_at_call 76; (with_reducible refine (HC.out _ Z6).mono ?_); rintro e w5 ⟨tv, rfl, k5, hc⟩; have HK5 := Lib.hid (show Keeps (fun _ => False) (w.alloc (.cells #[.int .i32 px, .int .i32 py] 37)) w5 from Keeps.trans Z4 k5); have HC5 := Lib.hid hc; clear k5 hc)
  | (go_at_call 77; (with_reducible refine (pick_covers _ _ _).mono ?_); rintro e w6 ⟨pv, rfl, k6, hp⟩; have HQ6 := Lib.hid (show Keeps (fun _ => False) w5 w6 from Keeps.trans Z4 k6); have HK6 := Lib.hid (HK5.out.trans HQ6.out); have HP6 := Lib.hid hp; clear k6 hp)
  | (go_at_call 75; (with_reducible refine (HT.out _ _ _ (HC5.out.kd HQ6.out) HP6.out).mono ?_); rintro e w7 ⟨VB, V, rfl, k7, hv, ha⟩; have HK7 := Lib.hid (HK6.out.trans k7); have HV := Lib.hid (And.intro hv ha); clear k7 hv ha))
 all_goals
  exact ZI
theorem scan_cross (hB : ScB w B off r) (hM : MapL kid w r (kvB L)) (hL : OkL L) (px py qx qy : Int) : Calls Tryz.prog 71 #[.pointer (some ⟨B, off, none⟩), .agg #[.int .i32 px, .int .i32 py], .agg #[.int .i32 qx, .int .i32 qy]] w (TellA L (tkC px py qx qy) w) := by
 have k1 : Keeps (fun _ => False) w ((w.alloc (.cells #[.int .i32 px, .int .i32 py] 37)).alloc (.cells #[.int .i32 qx, .int .i32 qy] 37)) := by (repeat (first | exact Keeps.refl _ _ | refine Keeps.alloc ?_ _ | refine Keeps.drew ?_))
 have bq := Blk.new (w.alloc (.cells #[.int .i32 px, .int .i32 py] 37)) 37 [.int .i32 qx, .int .i32 qy]
 simp only [World.size_alloc] at bq
 have HSN := Lib.hid (show ∀ W', Keeps (fun _ => False) ((w.alloc (.cells #[.int .i32 px, .int .i32 py] 37)).alloc (.cells #[.int .i32 qx, .int .i32 qy] 37)) W' → (W'.cell? ⟨B, off, none⟩ = some (.map (some r)) ∧ (∀ i : Nat, W'.cell? ⟨w.heap.size, i, none⟩ = ([.int .i32 px, .int .i32 py] : List Value)[i]?) ∧ ∀ i : Nat, W'.cell? ⟨w.heap.size + 1, i, none⟩ = ([.int .i32 qx, .int .i32 qy] : List Value)[i]?) from fun W' hk => ⟨(hB.kd (k1.trans hk)).cell, (((Blk.new w 37 [.int .i32 px, .int .i32 py]).alloc _).keeps hk (fun h => h)).cell, (bq.keeps hk (fun h => h)).cell⟩)
 have HC := Lib.hid (fun W' (hk : Keeps (fun _ => False) ((w.alloc (.cells #[.int .i32 px, .int .i32 py] 37)).alloc (.cells #[.int .i32 qx, .int .i32 qy] 37)) W') => cand_keys (hB.kd (k1.trans hk)) (hM.keeps (k1.trans hk) (fun h => h)) hL)
 have HT := Lib.hid (fun W' tv pv (h : Cand W' B off r L (fun _ => True) tv) (hp : Pick W' (tkC px py qx qy) pv) => h.tell hp hL (fun _ _ _ => trivial))
 have HK := Lib.hid k1
 clear hB hM hL k1 bq
 go_enter Tryz.func71, Tryz.ntmps71
 go_wp2
 go_region_held3 (fun W => (W.cell? ⟨B, off, none⟩ = some (.map (some r)) ∧ (∀ i : Nat, W.cell? ⟨w.heap.size, i, none⟩ = ([.int .i32 px, .int .i32 py] : List Value)[i]?) ∧ ∀ i : Nat, W.cell? ⟨w.heap.size + 1, i, none⟩ = ([.int .i32 qx, .int .i32 qy] : List Value)[i]?)) (first | with_reducible assumption | exact HSN.out _ Z6) (first
  | (go_at_call 76; (with_reducible refine (HC.out _ Z6).mono ?_); rintro e w5 ⟨tv, rfl, k5, hc⟩; have HK5 := Lib.hid (show Keeps (fun _ => False) ((w.alloc (.cells #[.int .i32 px, .int .i32 py] 37)).alloc (.cells #[.int .i32 qx, .int .i32 qy] 37)) w5 from Keeps.trans Z4 k5); have HC5 := Lib.hid hc; clear k5 hc)
  | (go_at_call 78; (with_reducible refine (pick_meets _ _ _ _ _).mono ?_); rintro e w6 ⟨pv, rfl, k6, hp⟩; have HQ6 := Lib.hid (show Keeps (fun _ => False) w5 w6 from Keeps.trans Z4 k6); have HK6 := Lib.hid (HK5.out.trans HQ6.out); have HP6 := Lib.hid hp; clear k6 hp)
  | (go_at_call 75; (with_reducible refine (HT.out _ _ _ (HC5.out.kd HQ6.out) HP6.out).mono ?_); rintro e w7 ⟨VB, V, rfl, k7, hv, ha⟩; have HK7 := Lib.hid (HK6.out.trans k7); have HV := Lib.hid (And.intro hv ha); clear k7 hv ha))
 all_goals
  exact ZI
end
end Fi
end Go.Proofs.YtdbpfbokfmpgcaaGreat
