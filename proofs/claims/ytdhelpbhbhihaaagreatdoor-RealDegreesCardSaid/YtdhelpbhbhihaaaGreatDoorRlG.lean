/-
  RlG: the digits of 1.5 set into a row.
-/
import Derived.Test.YtdhelpbhbhihaaaGreatDoorRlF
import Derived.Shelf.Strconv.Itoa2
namespace Go.Proofs
open Go.Shelf
shelf_lay Lays.n285 Nm 285 at Tryz as Tryz.lays285
end Go.Proofs
namespace Go.Proofs.YtdhelpbhbhihaaaGreatDoor
open Go.RowKit Go.Shelf Go.Sort Go.Lib
set_option linter.unusedVariables false
set_option linter.unusedSimpArgs false
attribute [local go_sem] Oper.semAt_some
namespace Rl
open Mem
def encB : UInt8 → Value := fun b => Value.int .u8 (b.toNat : Int)
theorem fmt_t (b : Nat) (u : Nat) (d : Array UInt8) (w : World) (hH : Holds encB w b 0 d) (hu : u < 10 ^ d.size) (hu64 : u < 18446744073709551616) (hsz : d.size < 4611686018427387904) (cap : Nat) :
    Calls Tryz.prog 101 #[.slice (some ⟨b, 0, none⟩) d.size cap, .int .u64 u] w fun e w' =>
      e = .returned (.tuple #[]) ∧ ∃ (n v' : Nat) (dk : Array UInt8), w' = (putRow encB w b 0 dk).drewN n ∧ FmtInv d.size u 0 v' dk :=
  Any.internal_strconv_formatBase10 Tryz.lays285 b 0 cap u d w hH hu hu64 hsz
/-- the row's first sixteen bytes behind it: 15 and noughts -/
theorem blk_row {w : World} {b : Nat} {t : TypeId} {cs : List Value} (hB : Blk w b t cs) (dk : Array UInt8) (n : Nat) : ∃ cs', Blk ((putRow encB w b 0 dk).drewN n) b t cs' := by
  refine ⟨(putCells encB 0 dk cs.toArray).toList, ?_⟩
  show (w.heap.modify b _)[b]? = _
  rw [Array.getElem?_modify, if_pos rfl, hB]
  rfl
theorem fmt16 (b : Nat) (cap : Nat) (w : World) (hH : Holds encB w b 0 (Array.replicate 16 0)) : Calls Tryz.prog 101 #[.slice (some ⟨b, 0, none⟩) 16 cap, .int .u64 1500000000000000] w fun e w' =>
      e = .returned (.tuple #[]) ∧ Keeps (fun k => k = b) w w' ∧ w'.cell? ⟨b, 0, none⟩ = some (.int .u8 49) ∧ w'.cell? ⟨b, 1, none⟩ = some (.int .u8 53) ∧ (∀ j : Nat, 2 ≤ j → j < 16 → w'.cell? ⟨b, j, none⟩ = some (.int .u8 48)) ∧ (∀ t cs, Blk w b t cs → ∃ cs', Blk w' b t cs') := by
  refine (fmt_t b 1500000000000000 (Array.replicate 16 0) w hH (by decide) (by decide) (by decide) cap).mono ?_
  rintro e w' ⟨he, n, v', dk, rfl, hF⟩
  have hs : dk.size = (Array.replicate 16 (0 : UInt8)).size := hF.size
  have hc := holds_putRow encB w b 0 (Array.replicate 16 0) dk hH hs
  have hd : ∀ j, j < 16 → dk[j]! = dg 1500000000000000 (15 - j) := fun j hj => hF.done j (Nat.zero_le _) hj
  have hs16 : dk.size = 16 := by rw [hs]; rfl
  have cc : ∀ j : Nat, j < 16 → ((putRow encB w b 0 dk).drewN n).cell? ⟨b, j, none⟩ = some (.int .u8 ((dg 1500000000000000 (15 - j)).toNat : Int)) := by
    intro j hj
    have h1 := (hc j (by rw [hs16]; exact hj)).1
    rw [hd j hj] at h1
    have e0 : (0 + j : Nat) = j := by omega
    have e1 : ((0 : Int) + j) = j := by omega
    simpa [encB] using h1
  refine ⟨he, ?_, cc 0 (by decide), cc 1 (by decide), ?_, fun t cs hB => blk_row hB dk n⟩
  · have hz := size_putRow encB w b 0 dk
    have kk : Keeps (fun k => k = b) w (putRow encB w b 0 dk) := ⟨rfl, rfl, rfl, by rw [hz]; exact Nat.le_refl _, fun k hk hn => ?_⟩
    · exact kk.drewN n
    show (putRow encB w b 0 dk).heap[k]? = w.heap[k]?
    unfold putRow mapBlock
    simp only [Array.getElem?_modify]
    rw [if_neg (fun h => hn h.symm)]
  · intro j h2 h16
    rw [cc j h16]
    have : j = 2 ∨ j = 3 ∨ j = 4 ∨ j = 5 ∨ j = 6 ∨ j = 7 ∨ j = 8 ∨ j = 9 ∨ j = 10 ∨ j = 11 ∨ j = 12 ∨ j = 13 ∨ j = 14 ∨ j = 15 := by omega
    rcases this with rfl | rfl | rfl | rfl | rfl | rfl | rfl | rfl | rfl | rfl | rfl | rfl | rfl | rfl <;> rfl
set_option maxHeartbeats 4000000 in
set_option maxRecDepth 20000 in
theorem set_at (b : Nat) (w : World) (hH : Holds encB w b 0 (Array.replicate 16 0)) : Calls Tryz.prog 134 #[.slice (some ⟨b, 0, none⟩) 32 32, .int .u64 1500000000000000, .int .i64 (-15), .int .i64 16] w fun e w' =>
      e = .returned (.tuple #[.int .i64 1, .int .i64 2]) ∧ Keeps (fun k => k = b) w w' ∧ w'.cell? ⟨b, 0, none⟩ = some (.int .u8 49) ∧ w'.cell? ⟨b, 1, none⟩ = some (.int .u8 53) ∧ (∀ t cs, Blk w b t cs → ∃ cs', Blk w' b t cs') := by
  have c1 := fmt16 b 32 w hH
  clear hH
  go_enter Tryz.func134, Tryz.ntmps134
  go_wp2_with (go_at_call 101; with_reducible refine c1.mono ?_; rintro e w' ⟨rfl, hK, k0, k1, hj, hbk⟩)
  have k2 := hj 2 (by decide) (by decide)
  have k3 := hj 3 (by decide) (by decide)
  have k4 := hj 4 (by decide) (by decide)
  have k5 := hj 5 (by decide) (by decide)
  have k6 := hj 6 (by decide) (by decide)
  have k7 := hj 7 (by decide) (by decide)
  have k8 := hj 8 (by decide) (by decide)
  have k9 := hj 9 (by decide) (by decide)
  have k10 := hj 10 (by decide) (by decide)
  have k11 := hj 11 (by decide) (by decide)
  have k12 := hj 12 (by decide) (by decide)
  have k13 := hj 13 (by decide) (by decide)
  have k14 := hj 14 (by decide) (by decide)
  have k15 := hj 15 (by decide) (by decide)
  go_wp2
  go_rounds 15
  all_goals
    exact bodyPost_ret (results_tmp2 rfl _ _ _) rfl ⟨rfl, hK, k0, k1, hbk⟩
end Rl
end Go.Proofs.YtdhelpbhbhihaaaGreatDoor
