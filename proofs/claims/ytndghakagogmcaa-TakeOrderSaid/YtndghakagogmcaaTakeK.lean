/-
  TakeOrder: from the first line to the last.
-/
import Derived.Test.YtndghakagogmcaaTakeJ
namespace Go.Proofs.Ytndghakagogmcaa
open Go.RowKit
set_option linter.unusedVariables false
namespace Take
open Mem
theorem bits255 (n : Int) : ∃ N : Nat, N ≤ 255 ∧ bits .and .i64 n 255 = (N : Int) := by
  refine ⟨(BitVec.ofInt 64 n &&& BitVec.ofInt 64 255).toNat, ?_, ?_⟩
  · rw [BitVec.toNat_and]
    exact Nat.le_trans Nat.and_le_right (by decide)
  · show IntKind.i64.wrap ((BitVec.ofInt 64 n &&& BitVec.ofInt 64 255).toNat : Int) = _
    have h : (BitVec.ofInt 64 n &&& BitVec.ofInt 64 255).toNat ≤ 255 := by
      rw [BitVec.toNat_and]
      exact Nat.le_trans Nat.and_le_right (by decide)
    exact IntWalk.i64_in _ (by omega)
/-- what is told of the list of numbers. -/
def Nums (w : World) (V : Option Addr) (len : Nat) : Prop := ∀ i, i < len → ∃ nb off z, V = some ⟨nb, off, none⟩ ∧ nb < w.heap.size ∧ z ≤ 255 ∧ w.cell? ⟨nb, off + i, none⟩ = some (.int .u8 ((z : Nat) : Int))
set_option maxRecDepth 100000 in
theorem order_yes (n : Nat) (V : Option Addr) (len cap : Nat) (nn : Int) (w : World) (hn0 : 1 ≤ n) (hn : n ≤ 32) (hlen : len ≤ 9223372036854775807) (hV : Nums w V len) :
    Calls Try.prog 8 #[.int .i64 (n : Int), .slice V len cap, .int .i64 nn] w fun e w' => e = .returned (.bool true) ∧ Below w.heap.size w w' := by
  obtain ⟨Nn, hN, hb⟩ := bits255 nn
  have HV := Lib.hid hV; clear hV
  have Hb := Lib.hid hb; clear hb
  go_enter Try.func8, Try.ntmps8
  go_wp2_with (go_at_call 13; refine (new_yes n _ hn0 hn).mono ?_; rintro e w1 ⟨tb, rb, rfl, hT, hR, hK, htb, hrb⟩)
  have hz := hK.size
  simp only [World.size_alloc] at hz htb hrb
  have HS : TS w.heap.size w (((w1.alloc (.cells #[.pointer (some ⟨tb, 0, none⟩)] 24)).alloc (.cells #[.slice none 0 0] 28)).alloc (.cells #[.int .u64 0] 29)) w1.heap.size (w1.heap.size + 1) (w1.heap.size + 1 + 1) w.heap.size tb rb n 1 := by
    refine ⟨empty n, none, 0, ⟨?_, ?_, ?_, ?_, ((hT.alloc _).alloc _).alloc _, ((hR.alloc _).alloc _).alloc _, World.ownsRow_nil _ _ _ _, by omega, by omega, by omega, by omega, by omega⟩, Inv.start n 300, Free.start n hn0, ?_⟩
    · exact ((Blk.new w1 24 [.pointer (some ⟨tb, 0, none⟩)]).alloc _).alloc _
    · have := (Blk.new (w1.alloc (.cells #[.pointer (some ⟨tb, 0, none⟩)] 24)) 28 [.slice none 0 0]).alloc (.cells #[.int .u64 0] 29)
      simpa [mks_length] using this
    · have := (Blk.new ((w1.alloc (.cells #[.pointer (some ⟨tb, 0, none⟩)] 24)).alloc (.cells #[.slice none 0 0] 28)) 29 [.int .u64 0])
      simpa using this
    · exact ((((Blk.new w 3 [.int .i64 (n : Int)]).keeps hK (fun h => h)).alloc _).alloc _).alloc _
    · exact (((((Below.refl _ w).alloc (Nat.le_refl _) _).trans (hK.below (by simp) (fun _ _ h => h))).alloc (by omega) _).alloc (by simp; omega) _).alloc (by simp; omega) _
  have hne : w1.heap.size ≠ w1.heap.size + 1 ∧ w1.heap.size ≠ w1.heap.size + 1 + 1 ∧ w1.heap.size + 1 ≠ w1.heap.size + 1 + 1 := by omega
  clear hT hR hK hz htb hrb
  generalize ((w1.alloc (.cells #[.pointer (some ⟨tb, 0, none⟩)] 24)).alloc (.cells #[.slice none 0 0] 28)).alloc (.cells #[.int .u64 0] 29) = W2 at *
  generalize w1.heap.size + 1 + 1 = LB at *
  generalize w1.heap.size + 1 = AB at *
  generalize w1.heap.size = TB at *
  obtain ⟨WB, hWB⟩ : ∃ WB, WB = w.heap.size := ⟨_, rfl⟩
  have HS := Lib.hid HS
  refine wp_loop_ghost (fun m a w' => ∃ i nx, m = len - i ∧ i ≤ len ∧ Fr a 106 [(1, .slice V len cap), (2, .int .i64 nn), (3, .pointer (some ⟨w.heap.size, 0, none⟩)), (9, .pointer (some ⟨AB, 0, none⟩)), (10, .pointer (some ⟨LB, 0, none⟩)), (11, .func (.func 15) #[] #[.pointer (some ⟨TB, 0, none⟩), .pointer (some ⟨AB, 0, none⟩), .pointer (some ⟨LB, 0, none⟩), .pointer (some ⟨w.heap.size, 0, none⟩)]), (12, .int .i64 (i : Int))] ∧ TS w.heap.size w w' TB AB LB w.heap.size tb rb n nx) len ?_ ?_
  · exact ⟨0, 1, by omega, by omega, ⟨rfl, rfl, by simp⟩, HS.out⟩
  rintro m a w' ⟨i, nx, rfl, hi, hF, hS⟩
  by_cases hlt : i < len
  · obtain ⟨nb, off, z, rfl, hnb, hz, hc⟩ := HV.out i hlt
    have hB : Below w.heap.size w w' := by obtain ⟨_, _, _, _, _, _, hB⟩ := hS; exact hB
    have hc' : w'.cell? ⟨nb, off + i, none⟩ = some (.int .u8 (z : Int)) := (hB.cell (p := ⟨nb, off + i, none⟩) hnb).trans hc
    refine wp_mono (ord1_go w.heap.size w w' TB AB LB w.heap.size tb rb n nx nn hS hn0 hn hne len cap nb off i z hlt hz hc' hlen (fun a' w'' => ∃ nx', Fr a' 106 [(1, .slice (some ⟨nb, off, none⟩) len cap), (2, .int .i64 nn), (3, .pointer (some ⟨w.heap.size, 0, none⟩)), (9, .pointer (some ⟨AB, 0, none⟩)), (10, .pointer (some ⟨LB, 0, none⟩)), (11, .func (.func 15) #[] #[.pointer (some ⟨TB, 0, none⟩), .pointer (some ⟨AB, 0, none⟩), .pointer (some ⟨LB, 0, none⟩), .pointer (some ⟨w.heap.size, 0, none⟩)]), (12, .int .i64 (i + 1 : Nat))] ∧ TS w.heap.size w w'' TB AB LB w.heap.size tb rb n nx') (fun _ _ => False) (fun _ _ _ => False) a hF (fun a' w'' nx' h1 h2 => ⟨nx', h1, h2⟩)) ?_
    refine Outs.mono ?_ (fun _ _ _ h => h.elim) (fun _ _ h => h.elim)
    rintro a' w'' ⟨nx', h1, h2⟩
    exact ⟨_, by omega, i + 1, nx', rfl, by omega, h1, h2⟩
  refine wp_mono (ord1_end w.heap.size w w' TB AB LB w.heap.size tb rb n nx nn hS hn0 hn hne V len cap i (by omega) (fun _ _ => False) (fun _ _ => False) (fun m a' w'' => m = 0 ∧ w'' = w' ∧ Fr a' 106 [(1, .slice V len cap), (2, .int .i64 nn), (3, .pointer (some ⟨w.heap.size, 0, none⟩)), (9, .pointer (some ⟨AB, 0, none⟩)), (10, .pointer (some ⟨LB, 0, none⟩)), (11, .func (.func 15) #[] #[.pointer (some ⟨TB, 0, none⟩), .pointer (some ⟨AB, 0, none⟩), .pointer (some ⟨LB, 0, none⟩), .pointer (some ⟨w.heap.size, 0, none⟩)]), (12, .int .i64 (i : Int))]) a hF (fun a' h1 => ⟨rfl, rfl, h1⟩)) ?_
  refine Outs.mono (fun _ _ h => h.elim) ?_ (fun _ _ h => h.elim)
  rintro m a' w'' ⟨rfl, rfl, hF'⟩
  refine frames106 (P := fun a => Fr a 106 [(1, .slice V len cap), (2, .int .i64 nn), (3, .pointer (some ⟨w.heap.size, 0, none⟩)), (9, .pointer (some ⟨AB, 0, none⟩)), (10, .pointer (some ⟨LB, 0, none⟩)), (11, .func (.func 15) #[] #[.pointer (some ⟨TB, 0, none⟩), .pointer (some ⟨AB, 0, none⟩), .pointer (some ⟨LB, 0, none⟩), .pointer (some ⟨w.heap.size, 0, none⟩)]), (12, .int .i64 (i : Int))] → Exit.then _ _ _ a w'') ?_ a' hF'.1 hF'.2.1 hF'
  intro u0 u1 u2 u3 u4 u5 u6 u7 u8 u9 u10 u11 u12 u13 u14 u15 u16 u17 u18 u19 u20 u21 u22 u23 u24 u25 u26 u27 u28 u29 u30 u31 u32 u33 u34 u35 u36 u37 u38 u39 u40 u41 u42 u43 u44 u45 u46 u47 u48 u49 u50 u51 u52 u53 u54 u55 u56 u57 u58 u59 u60 u61 u62 u63 u64 u65 u66 u67 u68 u69 u70 u71 u72 u73 u74 u75 u76 u77 u78 u79 u80 u81 u82 u83 u84 u85 u86 u87 u88 u89 u90 u91 u92 u93 u94 u95 u96 u97 u98 u99 u100 u101 u102 u103 u104 u105 hFu
  obtain rfl : u1 = .slice V len cap := hFu.at_ 1 _ (by simp)
  obtain rfl : u2 = .int .i64 nn := hFu.at_ 2 _ (by simp)
  obtain rfl : u3 = .pointer (some ⟨w.heap.size, 0, none⟩) := hFu.at_ 3 _ (by simp)
  obtain rfl : u9 = .pointer (some ⟨AB, 0, none⟩) := hFu.at_ 9 _ (by simp)
  obtain rfl : u10 = .pointer (some ⟨LB, 0, none⟩) := hFu.at_ 10 _ (by simp)
  obtain rfl : u11 = .func (.func 15) #[] #[.pointer (some ⟨TB, 0, none⟩), .pointer (some ⟨AB, 0, none⟩), .pointer (some ⟨LB, 0, none⟩), .pointer (some ⟨w.heap.size, 0, none⟩)] := hFu.at_ 11 _ (by simp)
  obtain rfl : u12 = .int .i64 (i : Int) := hFu.at_ 12 _ (by simp)
  have hnx : 1 ≤ nx := by obtain ⟨_, _, _, _, hI, _, _⟩ := hS; exact hI.pos
  have lB0 : w''.cell? ⟨LB, 0, none⟩ = some (.int .u64 ((nx : Int) - 1)) := by obtain ⟨_, _, _, hO, _⟩ := hS; exact hO.2.2.1.cell 0
  have hw1 : IntKind.u64.wrap (nx : Int) = (nx : Int) := by obtain ⟨_, _, _, _, hI, _⟩ := hS; have := hI.max; exact IntWalk.u64_in _ (by omega)
  have HS2 := Lib.hid hS
  have hnx3 : nx ≤ 301 := by obtain ⟨_, _, _, _, hI, _⟩ := hS; exact hI.max
  clear hFu hF' hF hS HS
  have hb := Hb.out
  go_wp2
  refine wp_loop_ghost (fun m a w' => ∃ k nx', m = 1000 - k ∧ 1 ≤ k ∧ k ≤ 301 ∧ Fr a 106 [(2, .int .i64 nn), (3, .pointer (some ⟨w.heap.size, 0, none⟩)), (9, .pointer (some ⟨AB, 0, none⟩)), (10, .pointer (some ⟨LB, 0, none⟩)), (11, .func (.func 15) #[] #[.pointer (some ⟨TB, 0, none⟩), .pointer (some ⟨AB, 0, none⟩), .pointer (some ⟨LB, 0, none⟩), .pointer (some ⟨w.heap.size, 0, none⟩)]), (13, .int .u64 (k : Int))] ∧ TS w.heap.size w w' TB AB LB w.heap.size tb rb n nx' ∧ k ≤ nx') (1000 - nx) ?_ ?_
  · exact ⟨nx, nx, rfl, hnx, hnx3, ⟨rfl, rfl, by simp⟩, HS2.out, Nat.le_refl _⟩
  clear lB0 hw1 HS2
  rintro m a w' ⟨k, nx2, rfl, hk1, hk3, hF, hS, hkn⟩
  by_cases hlt2 : k ≤ Nn
  · refine wp_mono (ord2_go w.heap.size w w' TB AB LB w.heap.size tb rb n nx2 nn hS hn0 hn hne Nn k hb hN hlt2 hk1 hkn (fun a' w'' => ∃ nx', Fr a' 106 [(2, .int .i64 nn), (3, .pointer (some ⟨w.heap.size, 0, none⟩)), (9, .pointer (some ⟨AB, 0, none⟩)), (10, .pointer (some ⟨LB, 0, none⟩)), (11, .func (.func 15) #[] #[.pointer (some ⟨TB, 0, none⟩), .pointer (some ⟨AB, 0, none⟩), .pointer (some ⟨LB, 0, none⟩), .pointer (some ⟨w.heap.size, 0, none⟩)]), (13, .int .u64 (k + 1 : Nat))] ∧ TS w.heap.size w w'' TB AB LB w.heap.size tb rb n nx' ∧ k + 1 ≤ nx') (fun _ _ => False) (fun _ _ _ => False) a hF (fun a' w'' nx' h1 h2 h3 => ⟨nx', h1, h2, h3⟩)) ?_
    refine Outs.mono ?_ (fun _ _ _ h => h.elim) (fun _ _ h => h.elim)
    rintro a' w'' ⟨nx', h1, h2, h3⟩
    exact ⟨_, by omega, k + 1, nx', rfl, by omega, by omega, h1, h2, h3⟩
  refine wp_mono (ord2_end w.heap.size w w' TB AB LB w.heap.size tb rb n nx2 nn hS hn0 hn hne Nn k hb hN (by omega) (fun _ _ => False) (fun _ _ => False) (fun m a' w'' => m = 2 ∧ w'' = w' ∧ Fr a' 106 [(2, .int .i64 nn), (3, .pointer (some ⟨w.heap.size, 0, none⟩)), (9, .pointer (some ⟨AB, 0, none⟩)), (10, .pointer (some ⟨LB, 0, none⟩)), (11, .func (.func 15) #[] #[.pointer (some ⟨TB, 0, none⟩), .pointer (some ⟨AB, 0, none⟩), .pointer (some ⟨LB, 0, none⟩), .pointer (some ⟨w.heap.size, 0, none⟩)]), (13, .int .u64 (k : Int))]) a hF (fun a' h1 => ⟨rfl, rfl, h1⟩)) ?_
  refine Outs.mono (fun _ _ h => h.elim) ?_ (fun _ _ h => h.elim)
  rintro m a' w'' ⟨rfl, rfl, hF'⟩
  refine frames106 (P := fun a => Fr a 106 [(2, .int .i64 nn), (3, .pointer (some ⟨w.heap.size, 0, none⟩)), (9, .pointer (some ⟨AB, 0, none⟩)), (10, .pointer (some ⟨LB, 0, none⟩)), (11, .func (.func 15) #[] #[.pointer (some ⟨TB, 0, none⟩), .pointer (some ⟨AB, 0, none⟩), .pointer (some ⟨LB, 0, none⟩), .pointer (some ⟨w.heap.size, 0, none⟩)]), (13, .int .u64 (k : Int))] → Exit.then _ _ _ a w'') ?_ a' hF'.1 hF'.2.1 hF'
  intro v0 v1 v2 v3 v4 v5 v6 v7 v8 v9 v10 v11 v12 v13 v14 v15 v16 v17 v18 v19 v20 v21 v22 v23 v24 v25 v26 v27 v28 v29 v30 v31 v32 v33 v34 v35 v36 v37 v38 v39 v40 v41 v42 v43 v44 v45 v46 v47 v48 v49 v50 v51 v52 v53 v54 v55 v56 v57 v58 v59 v60 v61 v62 v63 v64 v65 v66 v67 v68 v69 v70 v71 v72 v73 v74 v75 v76 v77 v78 v79 v80 v81 v82 v83 v84 v85 v86 v87 v88 v89 v90 v91 v92 v93 v94 v95 v96 v97 v98 v99 v100 v101 v102 v103 v104 v105 hFu
  obtain rfl : v2 = .int .i64 nn := hFu.at_ 2 _ (by simp)
  obtain rfl : v3 = .pointer (some ⟨w.heap.size, 0, none⟩) := hFu.at_ 3 _ (by simp)
  obtain rfl : v9 = .pointer (some ⟨AB, 0, none⟩) := hFu.at_ 9 _ (by simp)
  obtain rfl : v10 = .pointer (some ⟨LB, 0, none⟩) := hFu.at_ 10 _ (by simp)
  obtain rfl : v11 = .func (.func 15) #[] #[.pointer (some ⟨TB, 0, none⟩), .pointer (some ⟨AB, 0, none⟩), .pointer (some ⟨LB, 0, none⟩), .pointer (some ⟨w.heap.size, 0, none⟩)] := hFu.at_ 11 _ (by simp)
  obtain rfl : v13 = .int .u64 (k : Int) := hFu.at_ 13 _ (by simp)
  have lB0 : w''.cell? ⟨LB, 0, none⟩ = some (.int .u64 ((nx2 : Int) - 1)) := by obtain ⟨_, _, _, hO, _⟩ := hS; exact hO.2.2.1.cell 0
  have hw2 : ¬ ((nx2 : Int) - 1 < (Nn : Int)) := by omega
  have HS2 := Lib.hid hS
  have hnx2 : 1 ≤ nx2 := by omega
  have hnx4 : nx2 ≤ 301 := by obtain ⟨_, _, _, _, hI, _⟩ := hS; exact hI.max
  clear hFu hF' hF hS
  go_wp2
  refine wp_loop_ghost (fun m a w' => w' = w'' ∧ ∃ i2, m = 1000 - i2 ∧ i2 + 1 ≤ nx2 ∧ Fr a 106 [(2, .int .i64 nn), (3, .pointer (some ⟨w.heap.size, 0, none⟩)), (9, .pointer (some ⟨AB, 0, none⟩)), (10, .pointer (some ⟨LB, 0, none⟩)), (11, .func (.func 15) #[] #[.pointer (some ⟨TB, 0, none⟩), .pointer (some ⟨AB, 0, none⟩), .pointer (some ⟨LB, 0, none⟩), .pointer (some ⟨w.heap.size, 0, none⟩)]), (15, .int .i64 (i2 : Int))]) 1000 ?_ ?_
  · exact ⟨rfl, 0, rfl, by omega, ⟨rfl, rfl, by simp⟩⟩
  rintro m a w' ⟨rfl, i2, rfl, hi2, hF⟩
  have hS := HS2.out
  by_cases hlt4 : i2 + 1 < nx2
  · refine wp_mono (ord4_go w.heap.size w w' TB AB LB w.heap.size tb rb n nx2 nn hS hn0 hn hne i2 hlt4 (by omega) (fun a' w'' => w'' = w' ∧ Fr a' 106 [(2, .int .i64 nn), (3, .pointer (some ⟨w.heap.size, 0, none⟩)), (9, .pointer (some ⟨AB, 0, none⟩)), (10, .pointer (some ⟨LB, 0, none⟩)), (11, .func (.func 15) #[] #[.pointer (some ⟨TB, 0, none⟩), .pointer (some ⟨AB, 0, none⟩), .pointer (some ⟨LB, 0, none⟩), .pointer (some ⟨w.heap.size, 0, none⟩)]), (15, .int .i64 (i2 + 1 : Nat))]) (fun _ _ => False) (fun _ _ _ => False) a hF (fun a' h1 => ⟨rfl, h1⟩)) ?_
    refine Outs.mono ?_ (fun _ _ _ h => h.elim) (fun _ _ h => h.elim)
    rintro a' w'' ⟨rfl, h1⟩
    exact ⟨_, by omega, rfl, i2 + 1, rfl, by omega, h1⟩
  refine wp_mono (ord4_end w.heap.size w w' TB AB LB w.heap.size tb rb n nx2 nn hS hn0 hn hne i2 (by omega) (fun _ _ => False) (fun _ _ => False) (fun m a' w'' => m = 6 ∧ w'' = w' ∧ Fr a' 106 [(2, .int .i64 nn), (3, .pointer (some ⟨w.heap.size, 0, none⟩)), (9, .pointer (some ⟨AB, 0, none⟩)), (10, .pointer (some ⟨LB, 0, none⟩)), (11, .func (.func 15) #[] #[.pointer (some ⟨TB, 0, none⟩), .pointer (some ⟨AB, 0, none⟩), .pointer (some ⟨LB, 0, none⟩), .pointer (some ⟨w.heap.size, 0, none⟩)]), (15, .int .i64 (i2 : Int))]) a hF (fun a' h1 => ⟨rfl, rfl, h1⟩)) ?_
  refine Outs.mono (fun _ _ h => h.elim) ?_ (fun _ _ h => h.elim)
  rintro m a' w'' ⟨rfl, rfl, hF'⟩
  refine frames106 (P := fun a => Fr a 106 [(2, .int .i64 nn), (3, .pointer (some ⟨w.heap.size, 0, none⟩)), (9, .pointer (some ⟨AB, 0, none⟩)), (10, .pointer (some ⟨LB, 0, none⟩)), (11, .func (.func 15) #[] #[.pointer (some ⟨TB, 0, none⟩), .pointer (some ⟨AB, 0, none⟩), .pointer (some ⟨LB, 0, none⟩), .pointer (some ⟨w.heap.size, 0, none⟩)]), (15, .int .i64 (i2 : Int))] → Exit.then _ _ _ a w'') ?_ a' hF'.1 hF'.2.1 hF'
  intro x0 x1 x2 x3 x4 x5 x6 x7 x8 x9 x10 x11 x12 x13 x14 x15 x16 x17 x18 x19 x20 x21 x22 x23 x24 x25 x26 x27 x28 x29 x30 x31 x32 x33 x34 x35 x36 x37 x38 x39 x40 x41 x42 x43 x44 x45 x46 x47 x48 x49 x50 x51 x52 x53 x54 x55 x56 x57 x58 x59 x60 x61 x62 x63 x64 x65 x66 x67 x68 x69 x70 x71 x72 x73 x74 x75 x76 x77 x78 x79 x80 x81 x82 x83 x84 x85 x86 x87 x88 x89 x90 x91 x92 x93 x94 x95 x96 x97 x98 x99 x100 x101 x102 x103 x104 x105 hFu
  obtain rfl : x2 = .int .i64 nn := hFu.at_ 2 _ (by simp)
  obtain rfl : x3 = .pointer (some ⟨w.heap.size, 0, none⟩) := hFu.at_ 3 _ (by simp)
  obtain rfl : x9 = .pointer (some ⟨AB, 0, none⟩) := hFu.at_ 9 _ (by simp)
  obtain rfl : x10 = .pointer (some ⟨LB, 0, none⟩) := hFu.at_ 10 _ (by simp)
  obtain rfl : x11 = .func (.func 15) #[] #[.pointer (some ⟨TB, 0, none⟩), .pointer (some ⟨AB, 0, none⟩), .pointer (some ⟨LB, 0, none⟩), .pointer (some ⟨w.heap.size, 0, none⟩)] := hFu.at_ 11 _ (by simp)
  obtain rfl : x15 = .int .i64 (i2 : Int) := hFu.at_ 15 _ (by simp)
  obtain ⟨rs, a, c, hO, hI, hFr, hB⟩ := hS
  have aB0 := hO.2.1.cell 0
  simp only [List.getElem?_cons_zero] at aB0
  have hlen2 := mks_length 1 nx2
  have hsz : w.heap.size < w''.heap.size := hO.2.2.2.1.lt
  have heq : ((((mks 1 nx2).length : Nat) : Int) == (nx2 : Int) - 1) = true := by rw [beq_iff_eq]; omega
  have hmx : (mks 1 nx2).length ≤ 1000 := by omega
  clear hO hI hFr hFu hF' hF HS2 hlen2
  generalize (mks 1 nx2).length = L at *
  go_wp2_with (go_at_call 14; refine (lives_any _).mono ?_; rintro e w5 ⟨rfl, hK5⟩)
  go_ret
  exact ⟨rfl, hB.trans (hK5.below (by omega) (fun _ _ h => h))⟩
set_option maxRecDepth 100000 in
theorem order_no (n : Int) (V : Option Addr) (len cap : Nat) (nn : Int) (w : World) (hn : n < 1 ∨ 32 < n) :
    Calls Try.prog 8 #[.int .i64 n, .slice V len cap, .int .i64 nn] w fun e w' => e = .returned (.bool true) ∧ Below w.heap.size w w' := by
  go_enter Try.func8, Try.ntmps8
  go_wp2_with (first
    | (go_at_call 13; refine (new_no n _ hn).mono ?_; rintro e w1 ⟨rfl, rfl⟩)
    | (go_at_call 14; refine (lives_any _).mono ?_; rintro e w5 ⟨rfl, hK5⟩))
  go_ret
  exact ⟨rfl, (((Below.refl _ w).alloc (Nat.le_refl _) _).alloc (by simp) _).trans (hK5.below (by simp; omega) (fun _ _ h => h))⟩
end Take
end Go.Proofs.Ytndghakagogmcaa
