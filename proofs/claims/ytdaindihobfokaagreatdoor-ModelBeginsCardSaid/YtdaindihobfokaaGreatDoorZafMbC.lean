/-
MbC: lists of packets in memory; the document's list of one epoch, walked.
-/
import Derived.Test.YtdaindihobfokaaGreatDoorZabMbA
import Derived.Test.YtdaindihobfokaaGreatDoorZadAppAppGAppH
import Derived.Test.YtdaindihobfokaaGreatDoorZaeHeld
namespace Go.Proofs.YtdaindihobfokaaGreatDoor
open Go.RowKit
set_option linter.unusedVariables false
set_option linter.unusedSimpArgs false
attribute [local go_sem] Oper.semAt_some
namespace Mb
open Mem
theorem pkInfo : (Tryz.prog.info? 35).map (fun i => (i.zero, i.size, i.bytes)) = some (some (.agg #[.int .i64 0, .int .u32 0, .int .u64 0, .int .u8 0, .int .u32 0, .int .u32 0, .int .u32 0, .int .i32 0, .int .i32 0, .int .u32 0, .float .f64 0]), 11, 64) := by kernel_rfl
theorem pkI : ∃ i z, Tryz.prog.info? 35 = some i ∧ i.zero = some z ∧ i.size = 11 ∧ i.bytes = 64 ∧ z.cells.size = 11 := by
  obtain ⟨i0, hi0, hz0, hz1, hz2⟩ := info_parts pkInfo
  exact ⟨i0, _, hi0, hz0, hz1, hz2, rfl⟩
theorem pk_one : ∀ x, ∀ u ∈ pkc x, u.oneCell' = true := fun x u hu => by
  simp only [pkc, List.mem_cons, List.not_mem_nil, or_false] at hu
  rcases hu with rfl | rfl | rfl | rfl | rfl | rfl | rfl | rfl | rfl | rfl | rfl <;> rfl
/-- a slice that reads as this list of packets -/
def Pl (w : World) (v : Value) (L : List Pk) : Prop := ∃ a c, v = .slice a L.length c ∧ L.length ≤ c ∧ ∀ (i : Nat) p, L[i]? = some p → ∃ g off, a = some ⟨g, off, none⟩ ∧ ∀ (j : Nat) u, (pkc p)[j]? = some u → w.cell? ⟨g, off + i * 11 + j, none⟩ = some u
section
variable {w w' : World} {v : Value} {L : List Pk}
theorem Pl.kd (h : Pl w v L) (hk : Keeps (fun _ => False) w w') : Pl w' v L := by
  obtain ⟨a, c, h1, h2, h3⟩ := h
  refine ⟨a, c, h1, h2, fun i p hp => ?_⟩
  obtain ⟨g, off, e1, e2⟩ := h3 i p hp
  exact ⟨g, off, e1, fun j u hj => hk.cell (e2 j u hj) (fun h => h)⟩
theorem Pl.nil (w : World) : Pl w (.slice none 0 0) [] := ⟨none, 0, rfl, Nat.le_refl _, fun i p hp => by simp at hp⟩
theorem Pl.own {base : Nat} (h : w.ownsRow base 35 11 v L.length (L.flatMap pkc)) : Pl w v L := by
  rcases h.2 with ⟨rfl, h0⟩ | ⟨g, cap, cur, rfl, h1, h2, h3, h4⟩
  · exact ⟨none, 0, by rw [h0], by omega, fun i p hp => by
      have := (List.getElem?_eq_some_iff.1 hp).1; omega⟩
  · refine ⟨_, cap, rfl, h3, fun i p hp => ⟨g, 0, rfl, fun j u hj => ?_⟩⟩
    have hj5 : j < 11 := by have := (List.getElem?_eq_some_iff.1 hj).1; simpa [pkc] using this
    have hfc := flat_cell (f := pkc) (fun x => rfl) L i j hj5 p hp
    have hc := h.cells (g := g) rfl (i * 11 + j) u (by rw [hfc, hj])
    rw [Addr.add_mid, Nat.zero_add] at hc
    rw [Nat.zero_add]; exact hc
theorem Pl.row {a : Option Addr} {n c : Nat} (h : Pl w (.slice a n c) L) {i : Nat} {p : Pk} (hp : L[i]? = some p) : ∃ g off, a = some ⟨g, off, none⟩ ∧ (w.cell? ⟨g, off + i * 11, none⟩ = some (.int .i64 p.slot) ∧ w.cell? ⟨g, off + i * 11 + 1, none⟩ = some (.int .u32 (p.ep : Int)) ∧ w.cell? ⟨g, off + i * 11 + 2, none⟩ = some (.int .u64 p.num) ∧ w.cell? ⟨g, off + i * 11 + 3, none⟩ = some (.int .u8 p.kd) ∧ w.cell? ⟨g, off + i * 11 + 4, none⟩ = some (.int .u32 p.ob) ∧ w.cell? ⟨g, off + i * 11 + 5, none⟩ = some (.int .u32 p.fe) ∧ w.cell? ⟨g, off + i * 11 + 6, none⟩ = some (.int .u32 p.nu) ∧ w.cell? ⟨g, off + i * 11 + 7, none⟩ = some (.int .i32 p.x) ∧ w.cell? ⟨g, off + i * 11 + 8, none⟩ = some (.int .i32 p.y) ∧ w.cell? ⟨g, off + i * 11 + 9, none⟩ = some (.int .u32 p.ck) ∧ w.cell? ⟨g, off + i * 11 + 10, none⟩ = some (.float .f64 p.sp)) := by
  obtain ⟨a', c', h1, h2, h3⟩ := h
  simp only [Value.slice.injEq] at h1
  obtain ⟨rfl, rfl, rfl⟩ := h1
  obtain ⟨g, off, e1, e2⟩ := h3 i p hp
  exact ⟨g, off, e1, e2 0 _ rfl, e2 1 _ rfl, e2 2 _ rfl, e2 3 _ rfl, e2 4 _ rfl, e2 5 _ rfl, e2 6 _ rfl, e2 7 _ rfl, e2 8 _ rfl, e2 9 _ rfl, e2 10 _ rfl⟩
end
theorem take_at {L : List Pk} {i : Nat} {p : Pk} (hp : L[i]? = some p) : L.take (i + 1) = L.take i ++ [p] := by
  rw [List.take_add_one, hp]; rfl
/-- the packets of one epoch -/
def ofL (L : List Pk) (k : Nat) : List Pk := flt (·.ep) L k
theorem of_le (L : List Pk) (k : Nat) : (ofL L k).length ≤ L.length := List.length_filter_le _ _
theorem of_at {L : List Pk} {i : Nat} {p : Pk} (k : Nat) (hp : L[i]? = some p) : ofL (L.take (i + 1)) k = if p.ep = k then ofL (L.take i) k ++ [p] else ofL (L.take i) k := by
  rw [take_at hp]
  unfold ofL flt
  rw [List.filter_append]
  by_cases h : p.ep = k <;> simp [h]
end Mb
end Go.Proofs.YtdaindihobfokaaGreatDoor
