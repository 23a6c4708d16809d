/-
MbQ: the law of beginnings at lists that come in.
-/
import Derived.Test.YtdaindihobfokaaGreatDoorZauMbL
import Derived.Test.YtdaindihobfokaaGreatDoorZavFlat4
namespace Go.Proofs.YtdaindihobfokaaGreatDoor
open Go.RowKit
set_option linter.unusedVariables false
set_option linter.unusedSimpArgs false
set_option linter.ambiguousOpen false
namespace Mb
open Mem FlatF
abbrev pkK : List Lf := [.i .i64, .i .u32, .i .u64, .i .u8, .i .u32, .i .u32, .i .u32, .i .i32, .i .i32, .i .u32, .f .f64]
theorem pk_of {r : List Value} (h : Ints pkK r) : ∃ p : Pk, r = pkc p ∧ p.sp < 18446744073709551616 ∧ p.ep < 4294967296 := by
  simp only [Ints] at h
  obtain ⟨n0, r1, rfl, w0, n1, r2, rfl, w1, n2, r3, rfl, w2, n3, r4, rfl, w3, n4, r5, rfl, w4, n5, r6, rfl, w5, n6, r7, rfl, w6, n7, r8, rfl, w7, n8, r9, rfl, w8, n9, r10, rfl, w9, n10, r11, rfl, w10, rfl⟩ := h
  have b1 : 0 ≤ n1 ∧ n1 < 4294967296 := by
    simp [Lit.wf, IntKind.min, IntKind.max, IntKind.signed, IntKind.bits] at w1
    omega
  have b10 : n10 < 18446744073709551616 := by
    simpa [Lit.wf] using w10
  refine ⟨⟨n0, n1.toNat, n2, n3, n4, n5, n6, n7, n8, n9, n10⟩, ?_, b10, by simp only; omega⟩
  have e : ((n1.toNat : Nat) : Int) = n1 := by omega
  simp only [pkc, e]
theorem pks_of : ∀ {rows : List (List Value)}, (∀ r ∈ rows, Ints pkK r) → ∃ L : List Pk, rows = L.map pkc ∧ ∀ p ∈ L, p.sp < 18446744073709551616 ∧ p.ep < 4294967296
  | [], _ => ⟨[], rfl, fun p hp => by cases hp⟩
  | r :: rows, h => by
    obtain ⟨p, rfl, hp⟩ := pk_of (h r (by simp))
    obtain ⟨L, rfl, hL⟩ := pks_of (rows := rows) (fun x hx => h x (by simp [hx]))
    exact ⟨p :: L, rfl, fun q hq => by
      rcases List.mem_cons.1 hq with rfl | hq
      · exact hp
      · exact hL q hq⟩
theorem pl_of {w : World} {a : Option Addr} {rows : List (List Value)} {cap : Nat} {L : List Pk} (hr : rows = L.map pkc) (hc : rows.length ≤ cap) (hg : ∀ (i : Nat) r, rows[i]? = some r → ∃ b off, a = some ⟨b, off, none⟩ ∧ b < w.heap.size ∧ ∀ (j : Nat) u, r[j]? = some u → w.cell? ⟨b, off + i * pkK.length + j, none⟩ = some u) : Pl w (.slice a rows.length cap) L := by
  subst hr
  refine ⟨a, cap, by simp, by simpa using hc, fun i p hp => ?_⟩
  obtain ⟨b, off, e, _, h⟩ := hg i (pkc p) (by simp [hp])
  exact ⟨b, off, e, fun j u hj => h j u hj⟩
theorem begins_any (w : World) (a b : Option Addr) (rA rB : List (List Value)) (c d : Nat) (hA : ∀ r ∈ rA, Ints pkK r) (hB : ∀ r ∈ rB, Ints pkK r) (hcA : rA.length ≤ c) (hcB : rB.length ≤ d)
    (gA : ∀ (i : Nat) r, rA[i]? = some r → ∃ b off, a = some ⟨b, off, none⟩ ∧ b < w.heap.size ∧ ∀ (j : Nat) u, r[j]? = some u → w.cell? ⟨b, off + i * pkK.length + j, none⟩ = some u)
    (gB : ∀ (i : Nat) r, rB[i]? = some r → ∃ b' off, b = some ⟨b', off, none⟩ ∧ b' < w.heap.size ∧ ∀ (j : Nat) u, r[j]? = some u → w.cell? ⟨b', off + i * pkK.length + j, none⟩ = some u)
    (hl : rA.length * 64 ≤ 140737488355328) (hl2 : rB.length * 64 ≤ 140737488355328)
    (hW : ∀ W, Calls Tryz.prog 8 #[] W fun e w' => e = .returned (.bool true) ∧ Keeps (fun _ => False) W w') :
    Calls Tryz.prog 3 #[.slice a rA.length c, .slice b rB.length d] w fun e w' => e = .returned (.bool true) ∧ Below w.heap.size w w' := by
  obtain ⟨LA, eA, bA⟩ := pks_of hA
  obtain ⟨LB, eB, bB⟩ := pks_of hB
  have e1 : rA.length = LA.length := by rw [eA, List.length_map]
  have e2 : rB.length = LB.length := by rw [eB, List.length_map]
  exact (law_t w a b rA.length rB.length c d LA LB (pl_of eA hcA gA) (pl_of eB hcB gB) e1 e2 (by omega) (by omega) bA bB hW).mono fun e w' ⟨h1, h2⟩ => ⟨h1, h2.below (Nat.le_refl _) (fun _ _ h => h)⟩
end Mb
end Go.Proofs.YtdaindihobfokaaGreatDoor
