/-
WiF: a frame is opened.
-/
import Derived.Test.YtdaindihobfokaaGreatDoorZayWiE
namespace Go.Proofs.YtdaindihobfokaaGreatDoor
open Go.RowKit
set_option linter.unusedVariables false
set_option linter.unusedSimpArgs false
attribute [local go_sem] Oper.semAt_some
namespace Wi
open Mem
theorem Bys.lie {w : World} {b off : Nat} {L : List Nat} (h : Bys w (some ⟨b, off, none⟩) L) : ∀ j u, (L.flatMap bt)[j]? = some u → w.cell? ((⟨b, off, none⟩ : Addr).add j) = some u := by
  intro j u hj
  rw [flat_bt] at hj
  cases hx : L[j]? with
  | none => rw [hx] at hj; cases hj
  | some x =>
    rw [hx] at hj
    obtain ⟨b', off', e, hc⟩ := h j x hx
    injection e with e; injection e with e1 e2
    subst e1; subst e2
    simp only [Option.map_some, Option.some.injEq] at hj
    rw [Addr.add_mid, hc, hj]
theorem bt_flat (L : List Nat) : (L.flatMap bt).length = L.length := by rw [flatMap_len (size := 1) (fun _ => rfl)]; omega
theorem nil_b (W : World) (n c : Nat) : (binOp .eql 65 (.slice none n c) (.slice none 0 0)).run Tryz.prog W = .ok (.bool true) W := by kernel_rfl
theorem nil_n (W : World) (p : Addr) (n c : Nat) : (binOp .eql 65 (.slice (some p) n c) (.slice none 0 0)).run Tryz.prog W = .ok (.bool false) W := by kernel_rfl
set_option maxHeartbeats 1000000 in
set_option maxRecDepth 20000 in
theorem clone_t (n : Nat) (L : List Nat) (hn : n = L.length) (aa : Option Addr) (ca : Nat) (w : World) (hB : Bys w aa L) (haa : ∀ p, aa = some p → ∃ b off, p = ⟨b, off, none⟩) (hl : n ≤ 1000000) : Calls Tryz.prog 110 #[.slice aa n ca] w fun e w' => ∃ a c, e = .returned (.slice a n c) ∧ Keeps (fun _ => False) w w' ∧ Own w' w.heap.size a c L := by
  cases aa with
  | none =>
    obtain rfl : L = [] := by
      cases L with
      | nil => rfl
      | cons x L => obtain ⟨b, off, e, _⟩ := hB 0 x rfl; cases e
    obtain rfl : n = 0 := hn
    have he := fun W => nil_b W 0 ca
    go_enter Tryz.func110, Tryz.ntmps110
    go_wp2
    go_ret
    exact ⟨none, 0, rfl, Keeps.refl _ _, World.ownsRow_nil _ _ _ _⟩
  | some p =>
    obtain ⟨b, off, rfl⟩ := haa p rfl
    have HN := Lib.hid (And.intro hn (And.intro hB hl))
    have he := fun W => nil_n W ⟨b, off, none⟩ n ca
    clear hn hB haa hl
    go_enter Tryz.func110, Tryz.ntmps110
    have hown0 : (w.alloc (.cells #[] 5)).ownsRow w.heap.size 5 1 (.slice (some ⟨w.heap.size, 0, none⟩) 0 0) 0 [] := World.ownsRow_lit w #[] 0 (Nat.le_refl _) (by decide) rfl
    have hk0 : Keeps (fun _ => False) w (w.alloc (.cells #[] 5)) := (Keeps.refl _ _).alloc _
    have H0 := Lib.hid (And.intro hown0 hk0)
    clear hown0 hk0
    obtain ⟨ie, hie, hee⟩ := Option.map_eq_some_iff.1 bInfo
    simp only [Prod.mk.injEq] at hee
    have HI := Lib.hid (And.intro hie hee)
    clear hie hee
    go_wp2_with (at_builtin; refine wpList_append_own_at _ rfl (.tmp 5) (.tmp 6) _ rfl w.heap.size 5 ie _ 1 1 Tryz.underlying65 HI.out.1 HI.out.2.1 HI.out.2.2.1 HI.out.2.2.2 rfl (by decide) _ 0 [] rfl H0.out.1 ⟨b, off, none⟩ n ca (L.flatMap bt) rfl (by rw [bt_flat, HN.out.1]; omega) (HN.out.2.1.keeps H0.out.2 (far_none _)).lie (fun u hu => by obtain ⟨y, _, hy⟩ := List.mem_flatMap.1 hu; exact elB.one y u hy) (by have := HN.out.2.2; unfold maxLen; omega) (by have := HN.out.2.2; omega) H0.out.2.size ?_; intro v' w5 hown hgrow _ _; obtain ⟨a', c', rfl⟩ := own_slice hown; have HG := Lib.hid (And.intro hown hgrow); clear hown hgrow)
    go_ret
    obtain ⟨hown, hgrow⟩ := HG.out
    rw [Nat.zero_add, List.nil_append] at hown
    refine ⟨_, _, rfl, H0.out.2.grown hgrow (fun k hk e => by have e' : w.heap.size = k := (by injection e); exact absurd hk (by omega)), Own.n hown HN.out.1⟩
theorem or_join (i a b : Nat) (h : a < 2 ^ i) : a ||| b * 2 ^ i = a + b * 2 ^ i := by
  rw [Nat.or_comm, Nat.mul_comm, ← Nat.two_pow_add_eq_or_of_lt h b]; omega
theorem wr63 (n : Int) (h0 : 0 ≤ n) (h1 : n < 2 ^ 63) : IntKind.i64.wrap n = n := IntWalk.i64_in _ (by omega)
theorem ori64 (a b : Nat) (ha : a < 9223372036854775808) (hb : b < 9223372036854775808) : bits .or .i64 (a : Int) (b : Int) = ((a ||| b : Nat) : Int) := (bits_nat .i64 63 (by decide) wr63 a b (by omega) (by omega)).2
/-- a number by its four bytes -/
def un4 (a b c d : Nat) : Nat := a + 256 * b + 65536 * c + 16777216 * d
set_option maxHeartbeats 1000000 in
set_option maxRecDepth 20000 in
theorem length_t (b0 b1 b2 b3 b4 b5 b6 b7 : Nat) (R : List Nat) (n : Nat) (hn : n = R.length + 8) (b off ca : Nat) (w : World) (hB : Bys w (some ⟨b, off, none⟩) (b0 :: b1 :: b2 :: b3 :: b4 :: b5 :: b6 :: b7 :: R)) (h2 : b2 < 256) (h3 : b3 < 256) (h0 : b0 = 80) (h1 : b1 = 100) : Calls Tryz.prog 107 #[.slice (some ⟨b, off, none⟩) n ca] w fun e w' => e = .returned (.tuple #[.int .i64 ((b2 + 256 * b3 : Nat) : Int), .bool (decide (b2 + 256 * b3 ≤ 8184))]) ∧ Keeps (fun _ => False) w w' := by
  subst h0 h1
  obtain ⟨c0, c1, c2, c3⟩ : w.cell? ⟨b, off, none⟩ = some (.int .u8 80) ∧ w.cell? ⟨b, off + 1, none⟩ = some (.int .u8 100) ∧ w.cell? ⟨b, off + 2, none⟩ = some (.int .u8 (b2 : Int)) ∧ w.cell? ⟨b, off + 3, none⟩ = some (.int .u8 (b3 : Int)) := by
    have g : ∀ (i x : Nat), (80 :: 100 :: b2 :: b3 :: b4 :: b5 :: b6 :: b7 :: R)[i]? = some x → w.cell? ⟨b, off + i, none⟩ = some (.int .u8 (x : Int)) := fun i x h => by
      obtain ⟨b', off', e, hc⟩ := hB i x h
      injection e with e; injection e with e1 e2
      subst e1; subst e2; exact hc
    exact ⟨g 0 80 rfl, g 1 100 rfl, g 2 b2 rfl, g 3 b3 rfl⟩
  have hn8 : ¬ ((n : Int) < 8) := by omega
  have w2 : IntKind.i64.wrap (b2 : Int) = (b2 : Int) := IntWalk.i64_in _ (by omega)
  have w3 : IntKind.i64.wrap (b3 : Int) = (b3 : Int) := IntWalk.i64_in _ (by omega)
  have w4 : IntKind.i64.wrap ((b3 : Int) * 256) = (b3 : Int) * 256 := IntWalk.i64_in _ (by omega)
  have hN2 : (2 : Int) < (n : Int) := by omega
  have hN3 : (3 : Int) < (n : Int) := by omega
  have ho : bits .or .i64 (b2 : Int) ((b3 : Int) * 256) = ((b2 + 256 * b3 : Nat) : Int) := by
    have := ori64 b2 (b3 * 256) (by omega) (by omega)
    rw [or_join 8 b2 b3 h2] at this
    rw [show b2 + 256 * b3 = b2 + b3 * 2 ^ 8 by omega, ← this]; rfl
  clear hB hn
  go_enter Tryz.func107, Tryz.ntmps107
  go_wp2
  go_region_held3 (fun W => W.cell? ⟨b, off + 2, none⟩ = some (.int .u8 (b2 : Int)) ∧ W.cell? ⟨b, off + 3, none⟩ = some (.int .u8 (b3 : Int))) (first | with_reducible assumption | exact ⟨c2, c3⟩) (first | fail)
  have hle : decide (((b2 + 256 * b3 : Nat) : Int) ≤ 8184) = decide (b2 + 256 * b3 ≤ 8184) := by rw [decide_eq_decide]; omega
  have HLE := Lib.hid hle
  clear hle
  go_wp2
  go_ret2
  rw [← HLE.out]
  exact ⟨rfl, by (repeat (first | exact Keeps.refl _ _ | assumption | refine Keeps.alloc ?_ _ | refine Keeps.drew ?_))⟩
set_option maxHeartbeats 1000000 in
set_option maxRecDepth 20000 in
theorem whole_t (b0 b1 b2 b3 b4 b5 b6 b7 : Nat) (R : List Nat) (n T : Nat) (hn : n = R.length + 8) (b off ca : Nat) (w : World) (hT : Blk w T 242 (tabL 256)) (hB : Bys w (some ⟨b, off, none⟩) (b0 :: b1 :: b2 :: b3 :: b4 :: b5 :: b6 :: b7 :: R)) (h8 : ∀ x ∈ b0 :: b1 :: b2 :: b3 :: b4 :: b5 :: b6 :: b7 :: R, x < 256) (hl : n ≤ 1000000) (hca : n ≤ ca) : Calls Tryz.prog 109 #[.pointer (some ⟨T, 0, none⟩), .slice (some ⟨b, off, none⟩) n ca] w fun e w' => e = .returned (.bool (decide (crcOf (b0 :: b1 :: b2 :: b3 :: R) = un4 b4 b5 b6 b7))) ∧ Keeps (fun _ => False) w w' := by
  obtain ⟨c4, c5, c6, c7⟩ : w.cell? ⟨b, off + 4, none⟩ = some (.int .u8 (b4 : Int)) ∧ w.cell? ⟨b, off + 5, none⟩ = some (.int .u8 (b5 : Int)) ∧ w.cell? ⟨b, off + 6, none⟩ = some (.int .u8 (b6 : Int)) ∧ w.cell? ⟨b, off + 7, none⟩ = some (.int .u8 (b7 : Int)) := by
    have g : ∀ (i x : Nat), (b0 :: b1 :: b2 :: b3 :: b4 :: b5 :: b6 :: b7 :: R)[i]? = some x → w.cell? ⟨b, off + i, none⟩ = some (.int .u8 (x : Int)) := fun i x h => by
      obtain ⟨b', off', e, hc⟩ := hB i x h
      injection e with e; injection e with e1 e2
      subst e1; subst e2; exact hc
    exact ⟨g 4 b4 rfl, g 5 b5 rfl, g 6 b6 rfl, g 7 b7 rfl⟩
  have hA1 : Bys w (some ⟨b, off, none⟩) [b0, b1, b2, b3] := fun i x hx => by
    obtain ⟨b', off', e, hc⟩ := hB i x (by rcases i with _ | _ | _ | _ | i <;> simp at hx ⊢ <;> exact hx)
    exact ⟨b', off', e, hc⟩
  have hA2 : Bys w (some ⟨b, off + 8, none⟩) R := fun i x hx => by
    obtain ⟨b', off', e, hc⟩ := hB (i + 8) x (by simpa using hx)
    injection e with e; injection e with e1 e2
    subst e1; subst e2
    exact ⟨b, off + 8, rfl, by rw [show off + 8 + i = off + (i + 8) by omega]; exact hc⟩
  have HA8 := Lib.hid (show Bys w (if ca = 8 then some ⟨b, off, none⟩ else some ⟨b, off + 8, none⟩) R by
    by_cases h : ca = 8
    · obtain rfl : R = [] := List.eq_nil_of_length_eq_zero (by omega)
      intro i x hx; simp at hx
    · rw [if_neg h]; exact hA2)
  have HC := Lib.hid (fun W (hk : Keeps (fun _ => False) w W) a8 (h8' : Bys w a8 R) m (hm : m = R.length) c1 c2 => wcrc_t T 4 m [b0, b1, b2, b3] R rfl hm (some ⟨b, off, none⟩) a8 c1 c2 W (hT.keeps hk (fun h => h)) (hA1.keeps hk (far_none _)) (h8'.keeps hk (far_none _)) (fun x hx => h8 x (by simp at hx ⊢; omega)) (fun x hx => h8 x (by simp [hx])) (by decide) (by omega))
  obtain ⟨k4, k5, k6, k7⟩ : b4 < 256 ∧ b5 < 256 ∧ b6 < 256 ∧ b7 < 256 := ⟨h8 b4 (by simp), h8 b5 (by simp), h8 b6 (by simp), h8 b7 (by simp)⟩
  have w4 : IntKind.u32.wrap (b4 : Int) = (b4 : Int) := IntWalk.u32_in _ (by omega)
  have w5 : IntKind.u32.wrap (b5 : Int) = (b5 : Int) := IntWalk.u32_in _ (by omega)
  have w6 : IntKind.u32.wrap (b6 : Int) = (b6 : Int) := IntWalk.u32_in _ (by omega)
  have w7 : IntKind.u32.wrap (b7 : Int) = (b7 : Int) := IntWalk.u32_in _ (by omega)
  have v5 : IntKind.u32.wrap ((b5 : Int) * 256) = (b5 : Int) * 256 := IntWalk.u32_in _ (by omega)
  have v6 : IntKind.u32.wrap ((b6 : Int) * 65536) = (b6 : Int) * 65536 := IntWalk.u32_in _ (by omega)
  have v7 : IntKind.u32.wrap ((b7 : Int) * 16777216) = (b7 : Int) * 16777216 := IntWalk.u32_in _ (by omega)
  have o1 : bits .or .u32 (b4 : Int) ((b5 : Int) * 256) = ((b4 + b5 * 256 : Nat) : Int) := by
    have := or32 b4 (b5 * 256) (by omega) (by omega)
    rw [or_join 8 b4 b5 k4] at this
    exact this
  obtain ⟨s1, hs1⟩ : ∃ s1, s1 = b4 + b5 * 256 := ⟨_, rfl⟩
  rw [← hs1] at o1
  have o2 : bits .or .u32 (s1 : Int) ((b6 : Int) * 65536) = ((s1 + b6 * 65536 : Nat) : Int) := by
    have := or32 s1 (b6 * 65536) (by omega) (by omega)
    rw [or_join 16 s1 b6 (by omega)] at this
    exact this
  obtain ⟨s2, hs2⟩ : ∃ s2, s2 = s1 + b6 * 65536 := ⟨_, rfl⟩
  rw [← hs2] at o2
  have o3 : bits .or .u32 (s2 : Int) ((b7 : Int) * 16777216) = ((s2 + b7 * 16777216 : Nat) : Int) := by
    have := or32 s2 (b7 * 16777216) (by omega) (by omega)
    rw [or_join 24 s2 b7 (by omega)] at this
    exact this
  obtain ⟨s3, hs3⟩ : ∃ s3, s3 = s2 + b7 * 16777216 := ⟨_, rfl⟩
  rw [← hs3] at o3
  have hn7 : (7 : Int) < (n : Int) := by omega
  have hn6 : (6 : Int) < (n : Int) := by omega
  have hn5 : (5 : Int) < (n : Int) := by omega
  have hn4 : (4 : Int) < (n : Int) := by omega
  have hn8 : (8 : Int) ≤ (n : Int) := by omega
  have hca4 : (4 : Int) ≤ (ca : Int) := by omega
  have hca2 : (n : Int) ≤ (ca : Int) := by omega
  have hn4' : (4 : Int) ≤ (n : Int) := by omega
  have HS := Lib.hid (show s3 = un4 b4 b5 b6 b7 by unfold un4; omega)
  have HNN := Lib.hid (show n - 8 = R.length by omega)
  clear hs1 hs2 hs3 hB h8 hT hA1 hA2 k4 k5 k6 k7 hl hca hn
  by_cases hc8 : ca = 8
  · subst hc8
    rw [if_pos rfl] at HA8
    go_enter Tryz.func109, Tryz.ntmps109
    go_wp2
    go_region_held3 (fun W => W.cell? ⟨b, off + 4, none⟩ = some (.int .u8 (b4 : Int)) ∧ W.cell? ⟨b, off + 5, none⟩ = some (.int .u8 (b5 : Int)) ∧ W.cell? ⟨b, off + 6, none⟩ = some (.int .u8 (b6 : Int)) ∧ W.cell? ⟨b, off + 7, none⟩ = some (.int .u8 (b7 : Int))) (first | with_reducible assumption | exact ⟨c4, c5, c6, c7⟩) (first | fail)
    go_wp2
    go_region_held3 (fun _ => True) (trivial) (first | (go_at_call 148; refine (HC.out _ (by (repeat (first | exact Keeps.refl _ _ | assumption | refine Keeps.alloc ?_ _ | refine Keeps.drew ?_))) _ HA8.out _ HNN.out _ _).mono ?_; rintro e w5 ⟨rfl, rfl⟩))
    go_wp2
    (go_ret; refine ⟨?_, by (repeat (first | exact Keeps.refl _ _ | assumption | refine Keeps.alloc ?_ _ | refine Keeps.drew ?_))⟩; rw [← HS.out]; refine congrArg (fun x => Ending.returned (Value.bool x)) ?_; rw [Bool.eq_iff_iff]; simp only [beq_iff_eq, decide_eq_true_eq]; omega)
  · rw [if_neg hc8] at HA8
    go_enter Tryz.func109, Tryz.ntmps109
    go_wp2
    go_region_held3 (fun W => W.cell? ⟨b, off + 4, none⟩ = some (.int .u8 (b4 : Int)) ∧ W.cell? ⟨b, off + 5, none⟩ = some (.int .u8 (b5 : Int)) ∧ W.cell? ⟨b, off + 6, none⟩ = some (.int .u8 (b6 : Int)) ∧ W.cell? ⟨b, off + 7, none⟩ = some (.int .u8 (b7 : Int))) (first | with_reducible assumption | exact ⟨c4, c5, c6, c7⟩) (first | fail)
    go_wp2
    go_region_held3 (fun _ => True) (trivial) (first | (go_at_call 148; refine (HC.out _ (by (repeat (first | exact Keeps.refl _ _ | assumption | refine Keeps.alloc ?_ _ | refine Keeps.drew ?_))) _ HA8.out _ HNN.out _ _).mono ?_; rintro e w5 ⟨rfl, rfl⟩))
    go_wp2
    (go_ret; refine ⟨?_, by (repeat (first | exact Keeps.refl _ _ | assumption | refine Keeps.alloc ?_ _ | refine Keeps.drew ?_))⟩; rw [← HS.out]; refine congrArg (fun x => Ending.returned (Value.bool x)) ?_; rw [Bool.eq_iff_iff]; simp only [beq_iff_eq, decide_eq_true_eq]; omega)
end Wi
end Go.Proofs.YtdaindihobfokaaGreatDoor
