/-
  The receiver's small functions: live, near, place, Next.
-/
import Derived.Test.YtndghakagogmcaaRows
import Derived.WalkKit
import Derived.WalkSpells
import Derived.WalkLawsBesides
import Derived.Deep.QuietTactic
import Derived.BigQuiet
namespace Go.Proofs.Ytndghakagogmcaa
open Go.RowKit
namespace Take

theorem live_any (tb rb n : Nat) (w : World) (h1 : w.cell? ⟨tb, 1, none⟩ = some (.slice (some ⟨rb, 0, none⟩) n n)) (hn : 0 < n) :
    Calls Try.prog 38 #[.pointer (some ⟨tb, 0, none⟩)] w fun e w' => e = .returned (.bool true) ∧ w = w' := by
  go_enter Try.func38, Try.ntmps38
  go_wp2
  go_ret
  exact ⟨rfl, rfl⟩

theorem next_any (tb rb n : Nat) (nx : Int) (w : World) (h0 : w.cell? ⟨tb, 0, none⟩ = some (.int .u64 nx)) (h1 : w.cell? ⟨tb, 1, none⟩ = some (.slice (some ⟨rb, 0, none⟩) n n)) (hn : 0 < n) :
    Calls Try.prog 18 #[.pointer (some ⟨tb, 0, none⟩)] w fun e w' => e = .returned (.int .u64 nx) ∧ w = w' := by
  go_enter Try.func18, Try.ntmps18
  go_wp2
  go_ret
  exact ⟨rfl, rfl⟩

theorem near_lo (tb : Nat) (nx p : Int) (w : World) (h0 : w.cell? ⟨tb, 0, none⟩ = some (.int .u64 nx)) 
    (hp : p < nx) :
    Calls Try.prog 39 #[.pointer (some ⟨tb, 0, none⟩), .int .u64 p] w fun e w' => e = .returned (.bool false) ∧ ∃ k, w' = w.drewN k := by
  have hd : decide (nx ≤ p) = false := by simpa using hp
  go_enter Try.func39, Try.ntmps39
  go_wp2
  go_quiet (fail)
  go_wp2
  go_ret
  exact ⟨rfl, _, rfl⟩
theorem near_yes (tb rb n : Nat) (nx p : Int) (w : World) (h0 : w.cell? ⟨tb, 0, none⟩ = some (.int .u64 nx)) (h1 : w.cell? ⟨tb, 1, none⟩ = some (.slice (some ⟨rb, 0, none⟩) n n))
    (h0x : 0 ≤ nx) (hpx : p ≤ 9223372036854775807) (hnx : n ≤ 64) (hp : nx ≤ p) (hq : p < nx + n) :
    Calls Try.prog 39 #[.pointer (some ⟨tb, 0, none⟩), .int .u64 p] w fun e w' => e = .returned (.bool true) ∧ ∃ k, w' = w.drewN k := by
  have hd : decide (nx ≤ p) = true := by simpa using hp
  have hq' : p - nx < (n : Int) := by omega
  go_enter Try.func39, Try.ntmps39
  go_wp2
  go_quiet (fail)
  go_wp2
  go_ret
  exact ⟨rfl, _, rfl⟩

theorem near_hi (tb rb n : Nat) (nx p : Int) (w : World) (h0 : w.cell? ⟨tb, 0, none⟩ = some (.int .u64 nx)) (h1 : w.cell? ⟨tb, 1, none⟩ = some (.slice (some ⟨rb, 0, none⟩) n n))
    (h0x : 0 ≤ nx) (hpx : p ≤ 9223372036854775807) (hnx : n ≤ 64) (hp : nx ≤ p) (hq : nx + n ≤ p) :
    Calls Try.prog 39 #[.pointer (some ⟨tb, 0, none⟩), .int .u64 p] w fun e w' => e = .returned (.bool false) ∧ ∃ k, w' = w.drewN k := by
  have hd : decide (nx ≤ p) = true := by simpa using hp
  have hq' : decide (p - nx < (n : Int)) = false := by simp; omega
  go_enter Try.func39, Try.ntmps39
  go_wp2
  go_quiet (fail)
  go_wp2
  go_ret
  exact ⟨rfl, _, rfl⟩

theorem place_any (tb rb n : Nat) (p : Nat) (w : World) (h1 : w.cell? ⟨tb, 1, none⟩ = some (.slice (some ⟨rb, 0, none⟩) n n))
    (hpx : p ≤ 9223372036854775807) (hnx : n ≤ 64) (hn : 0 < n) :
    Calls Try.prog 40 #[.pointer (some ⟨tb, 0, none⟩), .int .u64 (p : Int)] w fun e w' => e = .returned (.pointer (some ⟨rb, p % n * 12, none⟩)) ∧ ∃ k, w' = w.drewN k := by
  have hm : p % n < n := Nat.mod_lt _ hn
  go_enter Try.func40, Try.ntmps40
  go_wp2
  go_quiet (fail)
  go_wp2
  go_ret
  exact ⟨rfl, _, rfl⟩
end Take
end Go.Proofs.Ytndghakagogmcaa
