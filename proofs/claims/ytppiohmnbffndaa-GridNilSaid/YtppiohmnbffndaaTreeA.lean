/-
  slices.Values over numbers: its contract.
-/
import Derived.Test.YtppiohmnbffndaaIter
namespace Go.Proofs.Ytppiohmnbffndaa
open Go.RowKit
set_option linter.unusedVariables false
attribute [local go_sem] Oper.semAt_some
namespace Tree
open Mem
/-- a slice of uint32 that reads as xs, in the world w; the row lies outside of S. -/
def U32s (w : World) (v : Value) (xs : List Nat) : Prop :=
  ∃ a c, v = .slice a xs.length c ∧ ∀ i x, xs[i]? = some x → ∃ b off, a = some ⟨b, off, none⟩ ∧ w.cell? ⟨b, off + i, none⟩ = some (.int .u32 ((x : Nat) : Int))
def rowOf (v : Value) (k : Nat) : Prop := ∃ a n c, v = .slice (some a) n c ∧ a.block = k
set_option maxRecDepth 100000 in
theorem values1_gives (n B : Nat) (v : Value) (xs : List Nat) (W : World) (hl : xs.length ≤ 9223372036854775807) (hB : W.cell? ⟨B, 0, none⟩ = some v) (hv : U32s W v xs) :
    Gives Try.prog n 51 #[.pointer (some ⟨B, 0, none⟩)] (fun x : Nat => #[.int .u32 (x : Int)]) xs W (fun S => ∀ k, S k → ¬ rowOf v k) := by
  intro l J Jx S hA hJ hJx hin hY h0
  obtain ⟨a, c, rfl, hx⟩ := hv
  refine callsIn_of_wp Try.func51 rfl trivial ?_ rfl
  simp only [Try.ntmps51, List.size_toArray, List.length_cons, List.length_nil, Nat.reduceAdd, Nat.reduceSub, Array.replicate_succ, Array.replicate_zero, List.push_toArray, List.append_toArray, List.nil_append, List.cons_append]
  have HY := Lib.hid hY; clear hY
  have HX := Lib.hid hx; clear hx
  gi_wp2
  gi_loopw [7] (fun p wr => ∃ (i : Nat) (Sk : Nat → Prop), i ≤ xs.length ∧ p = .int .i64 (i : Int) ∧ J (xs.take i) Sk wr ∧ Inb Sk wr ∧ Foot S Sk W wr) (fun p _ => xs.length - (intOf p).toNat)
  case atStart => exact ⟨0, S, Nat.zero_le _, rfl, by simpa using h0, hin, Foot.refl _ _⟩
  case round =>
    obtain ⟨i, Sk, hi, rfl, hj, hink, hf⟩ := hrel
    by_cases hlt : i < xs.length
    · obtain ⟨b, off, rfl, hc⟩ := HX.out i xs[i] (List.getElem?_eq_getElem hlt)
      have hns : ¬ S b := fun h => hA b h ⟨_, _, _, rfl, rfl⟩
      have hc' : wr.cell? ⟨b, off + i, none⟩ = some (.int .u32 ((xs[i] : Nat) : Int)) := hf.1.cell (p := ⟨b, off + i, none⟩) hc hns
      have hsplit : xs = xs.take i ++ xs[i] :: xs.drop (i + 1) := by rw [← List.drop_eq_getElem_cons hlt, List.take_append_drop]
      have htk : xs.take (i + 1) = xs.take i ++ [xs[i]] := (List.take_append_getElem hlt).symm
      obtain ⟨fn, tmps, assign, body, hy, hR⟩ := HY.out (xs.take i) xs[i] _ Sk wr hsplit hj hink
      have HT := Lib.hid htk; clear htk hsplit
      have HJ := Lib.hid hj; clear hj h0
      gi_wp2
      refine ⟨fun h => by simp [Fence.wide] at h, hR.mono ?_⟩
      rintro e W3 ⟨S3, hf3, hin3, (⟨rfl, hj3⟩ | ⟨rfl, hj3⟩)⟩
      · gi_wp2
        go_roundw
        case rel => exact ⟨i + 1, S3, by omega, by go_num, by rw [HT.out]; exact hj3, hin3, hf.trans hf3⟩
        case measure => simp [intOf]; omega
      · gi_wp2
        refine bodyPost_ret (results_none rfl _ _ _) rfl ?_
        exact ⟨⟨_, rfl⟩, S3, hf.trans hf3, hin3, .inr ⟨xs.take i ++ [xs[i]], ⟨xs.drop (i + 1), by simp⟩, hj3⟩⟩
    · obtain rfl : i = xs.length := by omega
      gi_wp2
      go_end0
      exact ⟨⟨_, rfl⟩, Sk, hf, hink, .inl (by simpa using hj)⟩
end Tree
end Go.Proofs.Ytppiohmnbffndaa
