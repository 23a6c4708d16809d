/-
WiO: what the document lays of an update is read as that update.
-/
import Derived.Test.YtdaindihobfokaaGreatDoorZbgWiN
namespace Go.Proofs.YtdaindihobfokaaGreatDoor
open Go.RowKit
set_option linter.unusedVariables false
set_option linter.unusedSimpArgs false
attribute [local go_sem] Oper.semAt_some
namespace Wi
open Mem
theorem le4 (v : Nat) : le 4 v = [v % 256, v / 256 % 256, v / 65536 % 256, v / 16777216 % 256] := by
  simp only [le, Nat.div_div_eq_div_mul]
theorem un4_le (v : Nat) (h : v < 4294967296) : un4 (v % 256) (v / 256 % 256) (v / 65536 % 256) (v / 16777216 % 256) = v := by unfold un4; omega
set_option maxHeartbeats 1000000 in
theorem readput_t (id nu ti xn yn : Nat) (x y : Int) (h1 : id < 4294967296) (h2 : nu < 4294967296) (h3 : ti < 4294967296) (h4 : xn < 4294967296) (h5 : yn < 4294967296) (hx : IntKind.i32.wrap (xn : Int) = x) (hy : IntKind.i32.wrap (yn : Int) = y) (b off ca : Nat) (w : World) (hB : Bys w (some ⟨b, off, none⟩) (frameL (bodyL id nu ti xn yn))) (hca : 30 ≤ ca) :
    Calls Tryz.prog 31 #[.slice (some ⟨b, off, none⟩) 30 ca] w fun e w' => e = .returned (.tuple #[.agg (upd id nu ti x y).toArray, .int .i64 0]) ∧ Keeps (fun _ => False) w w' := by
  obtain ⟨s, hs⟩ : ∃ s, s = crcOf ([80, 100] ++ le 2 22 ++ bodyL id nu ti xn yn) := ⟨_, rfl⟩
  have hsl : s < 4294967296 := by
    rw [hs]
    refine crcOf_lt _ (fun z hz => ?_)
    rcases List.mem_append.1 hz with hz | hz
    · rcases List.mem_append.1 hz with hz | hz
      · simp at hz; omega
      · exact le_lt _ _ z hz
    · exact body_lt _ _ _ _ _ z hz
  have hfr : frameL (bodyL id nu ti xn yn) = 80 :: 100 :: 22 :: 0 :: s % 256 :: s / 256 % 256 :: s / 65536 % 256 :: s / 16777216 % 256 :: bodyL id nu ti xn yn := by
    unfold frameL
    rw [body_len, ← hs, le4]
    rfl
  have hbo : bodyL id nu ti xn yn = [1, 1, id % 256, id / 256 % 256, id / 65536 % 256, id / 16777216 % 256, nu % 256, nu / 256 % 256, nu / 65536 % 256, nu / 16777216 % 256, ti % 256, ti / 256 % 256, ti / 65536 % 256, ti / 16777216 % 256, xn % 256, xn / 256 % 256, xn / 65536 % 256, xn / 16777216 % 256, yn % 256, yn / 256 % 256, yn / 65536 % 256, yn / 16777216 % 256] := by
    unfold bodyL
    rw [le4, le4, le4, le4, le4]
    rfl
  have hlt := body_lt id nu ti xn yn
  rw [hfr] at hB
  have hcr : crcOf (80 :: 100 :: 22 :: 0 :: bodyL id nu ti xn yn) = un4 (s % 256) (s / 256 % 256) (s / 65536 % 256) (s / 16777216 % 256) := by
    rw [un4_le s hsl, hs]; rfl
  rw [hbo] at hB hlt hcr
  have := readc_t _ _ _ _ _ _ _ _ _ _ _ _ _ _ _ _ _ _ _ _ _ _ _ _ x y ⟨hlt, ⟨by omega, by omega, by omega, by omega⟩, by rw [un4_le xn h4]; exact hx, by rw [un4_le yn h5]; exact hy, hcr⟩ b off ca w hB hca
  rw [un4_le id h1, un4_le nu h2, un4_le ti h3] at this
  exact this
end Wi
end Go.Proofs.YtdaindihobfokaaGreatDoor
