/-
SoA: the sort at uint32: cmp.Less.
SoB: the sort at uint32: a worked walk of the kit turned by wip/turn_sort.py.
-/
import Derived.Test.YtdbpfbokfmpgcaaGreatZabGrAGsPFiQGrBGrCGrDGrE
import Derived.Sort.WalkB12
import Derived.Sort.WalkA
set_option linter.unusedVariables false
set_option linter.unusedSimpArgs false
set_option maxHeartbeats 16000000
set_option maxRecDepth 100000
attribute [local go_sem] Go.Oper.semAt_some
namespace Go.Proofs.YtdbpfbokfmpgcaaGreat
theorem ZAX {p : Prop} (h : p := by rw [← HG.out, ← HG.out]; exact hl) : p := h
theorem ZAw {p : Prop} (h : p := by rw [HW.out]; exact putRow_drewN _ _ _ _ _ _ _) : p := h
open Go.RowKit Go.Sort
namespace So
abbrev enU : Int → Value := Value.int .u32
theorem nan_u (x : Int) (w : World) : Calls Tryz.prog 113 #[.int .u32 x] w fun e w' => e = .returned (.bool false) ∧ w = w' := by
 go_enter Tryz.func113, Tryz.ntmps113
 go_wp2
 go_ret
 exact ⟨ZA7, rfl⟩
theorem less_u (x y : Int) (w : World) : Calls Tryz.prog 101 #[.int .u32 x, .int .u32 y] w fun e w' => e = .returned (.bool (ltInt x y)) ∧ w' = w := by
 go_enter Tryz.func101, Tryz.ntmps101
 go_wp2_with (go_at_call 113; refine (nan_u _ _).mono ?_; rintro e w1 ⟨rfl, rfl⟩)
 go_ret
 exact ⟨rfl, rfl⟩
theorem reverse_u (blk off cap : Nat) (d : Array Int) (a b : Nat) (w : World) (hH : Holds enU w blk off d) (hab : a ≤ b) (hb : b ≤ d.size) (hsz : d.size < 4611686018427387904) :
 Calls Tryz.prog 99 #[.slice (some ⟨blk, off, none⟩) d.size cap, .int .i64 a, .int .i64 b] w fun e w' => e = .returned (.tuple #[]) ∧ ∃ n, w' = putRow enU (Sort.ahead w n) blk off (reverseRange d a b) := by
 go_enter Tryz.func99, Tryz.ntmps99
 go_wp2
 go_loopg [6, 7] (b - a) (fun k s6 s7 wr => ∃ (i jn : Nat) (jz : Int) (dk : Array Int) (n : Nat), s6 = .int .i64 i ∧ s7 = .int .i64 jz ∧ ((i : Int) < jz → jz = jn ∧ jn < d.size) ∧ (¬ (i : Int) < jz → ¬ i < jn) ∧ jn - i ≤ k ∧
  dk.size = d.size ∧ wr = putRow enU (Sort.ahead w n) blk off dk ∧ reverseLoop i jn dk = reverseLoop a (b - 1) d)
 case atStart => exact ⟨a, b - 1, (b : Int) - 1, d, 0, rfl, rfl, fun h => ⟨Z8, Z8⟩, fun h => Z8, Z8, rfl, (putRow_self enU w blk off d hH).symm, rfl⟩
 case round =>
  obtain ⟨i, jn, jz, dk, n, rfl, rfl, h1, h2, hk, hds, hwr, heq⟩ := hrel
  by_cases hlt : (i : Int) < jz
  ·obtain ⟨rfl, hjn⟩ := h1 hlt
   have hij : i < jn := by omega
   have hHk : Holds enU wr blk off dk := by rw [hwr]; exact holds_putRow enU _ blk off d dk (holds_ahead enU w n blk off d hH) hds
   obtain ⟨ci, fi⟩ := hHk i Z8
   obtain ⟨cj, fj⟩ := hHk jn Z8
   have A := Lib.hid hwr
   clear hwr hHk hH h1 h2
   simp only [enU] at ci cj
   go_wp2_with fail
   go_region
   go_wp2
   go_roundg (jn - 1 - (i + 1))
   case measure => omega
   case rel =>
    rw [reverseLoop, if_pos hij] at heq
    exact ⟨i + 1, jn - 1, (jn : Int) - 1, swp dk i jn, n + 1, ZA7, rfl, fun h => ⟨Z8, Z8⟩, fun h => Z8, Nat.le_refl _, by rw [size_swp]; exact hds,
     swap_world enU Z8 Z8 A.out (by simp [enU, getElem!_pos, show jn < dk.size by omega]) rfl, heq⟩
  ·have hnot := h2 hlt
   go_wp2
   go_end0
   refine ⟨rfl, n, ?_⟩
   rw [reverseLoop, if_neg hnot] at heq
   rw [reverseRange, ← heq]
end So
open Go.RowKit Go.Sort
namespace So
theorem insertionSort_u (blk off cap a b : Nat) (d : Array Int) (w : World) (hH : Holds (Value.int .u32) w blk off d) (hab : a ≤ b) (hb : b ≤ d.size) (hsz : d.size < 4611686018427387904) :
 Calls Tryz.prog 95 #[.slice (some ⟨blk, off, none⟩) d.size cap, .int .i64 a, .int .i64 b] w fun e w' =>
  e = .returned (.tuple #[]) ∧ ∃ n, w' = putRow (Value.int .u32) (Sort.ahead w n) blk off (Sort.insertionSort ltInt d a b) := by
 go_enter Tryz.func95, Tryz.ntmps95
 go_wp2
 go_loopw [6] (fun vi wr => ∃ (i n : Nat) (dk : Array Int), vi = .int .i64 i ∧ a < i ∧ i ≤ b + 1 ∧ dk.size = d.size ∧ wr = putRow (Value.int .u32) (Sort.ahead w n) blk off dk ∧
  insOuter ltInt a b i dk = insOuter ltInt a b (a + 1) d) (fun vi _ => b + 1 - (intOf vi).toNat)
 case atStart => exact ⟨a + 1, 0, d, ZAl, Z8, Z8, rfl, (putRow_self _ _ _ _ _ hH).symm, rfl⟩
 case round =>
  obtain ⟨i, n, dk, rfl, hai, hib, hsk, hwr, hO⟩ := hrel
  have HO : Hid (insOuter ltInt a b i dk = insOuter ltInt a b (a + 1) d) := hO
  clear hO
  go_wp2
  ·
   go_loopw [7] (fun vj wr2 => ∃ (j m : Nat) (dj : Array Int), vj = .int .i64 j ∧ a ≤ j ∧ j ≤ i ∧ dj.size = d.size ∧ wr2 = putRow (Value.int .u32) (Sort.ahead w m) blk off dj ∧
    insInner ltInt a j dj = insInner ltInt a i dk) (fun vj _ => (intOf vj).toNat)
   case atStart => exact ⟨i, n, dk, rfl, Z8, Nat.le_refl _, hsk, rfl, rfl⟩
   case round =>
    obtain ⟨j, m, dj, rfl, haj, hji, hsj, hw2, hI⟩ := hrel
    have hlt : i < b := by assumption
    obtain ⟨G, hG⟩ : ∃ G : Nat → Int, ∀ t, G t = dj[t]! := ⟨fun t => dj[t]!, fun _ => rfl⟩
    have hcw : ∀ t, t < d.size → wr.cell? ⟨blk, off + t, none⟩ = some (.int .u32 (G t)) := fun t ht => by
     rw [hw2, hG]; exact cell?_putRow _ _ _ _ d dj (holds_ahead _ _ _ _ _ _ hH) hsj t Z8
    have hfw : ∀ t, t < d.size → wr.frozen? ⟨blk, off + t, none⟩ = false := fun t ht => by
     rw [hw2, frozen?_putRow]; exact ((holds_ahead _ _ m _ _ _ hH) t ht).2
    have HW : Hid (wr = putRow (Value.int .u32) (Sort.ahead w m) blk off dj) := hw2
    have HG : Hid (∀ t, G t = dj[t]!) := hG
    have HI : Hid (insInner ltInt a j dj = insInner ltInt a i dk) := hI
    clear hw2 hG hI hH
    have out : (j ≤ a ∨ ltInt dj[j]! dj[j - 1]! = false) → ∀ q, ∃ i' n' dk', Value.int .i64 ((i : Int) + 1) = .int .i64 (i' : Nat) ∧ a < i' ∧ i' ≤ b + 1 ∧ dk'.size = d.size ∧
     wr.drewN q = putRow (Value.int .u32) (Sort.ahead w n') blk off dk' ∧ insOuter ltInt a b i' dk' = insOuter ltInt a b (a + 1) d := fun hs q =>
     ⟨i + 1, m + q, dj, ZAl, Z8, Z8, hsj, ZAw,
       by rw [← HO.out, insOuter_go _ _ _ _ _ hlt, ← HI.out, insInner_stop _ _ _ _ hs]⟩
    have OUT : Hid _ := out
    clear out
    go_wp2
    by_cases hja : a < j
    ·go_quiet (first | (go_at_call 101; refine Calls.quiet_of_same (less_u _ _ _)))
     go_wp2
     ·
      have hl : ltInt (G j) (G (j - 1)) = true := by assumption
      go_region
      all_goals go_wp2
      go_roundw
      case rel =>
       refine ⟨j - 1, m + (nq + 1), swp dj j (j - 1), by congr 1; omega, Z8, Z8, by rw [size_swp]; exact hsj, ?_, ?_⟩
       ·rw [HW.out, HG.out, HG.out]
        exact swap_worldA _ w m (nq + 1) blk off dj j (j - 1) Z8 Z8
       ·rw [← HI.out, insInner_go ltInt a j dj hja ZAX]
      case measure => simp [intOf]; omega
     ·
      have hl : ltInt (G j) (G (j - 1)) = false := by assumption
      go_roundw
      case rel => exact OUT.out (Or.inr ZAX) nq
      case measure => simp [intOf]; omega
    ·go_quiet (first | (go_at_call 101; refine Calls.quiet_of_same (less_u _ _ _)))
     go_wp2
     go_roundw
     case rel => exact OUT.out (Or.inl Z8) nq
     case measure => simp [intOf]; omega
  ·
   have hge : ¬ i < b := by assumption
   go_end0
   exact ⟨rfl, n, by unfold Sort.insertionSort; rw [← HO.out, insOuter_stop _ _ _ _ _ hge]⟩
end So
end Go.Proofs.YtdbpfbokfmpgcaaGreat
