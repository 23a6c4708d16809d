/-
'FinderPlays' answers true for every index, every size and every script; what came in reads as it did. No condition.
-/
import Derived.Test.YtdbpfbokfmpgcaaGreatZbzAppGFqEFqFFlatFlat3FqG
import Derived.HandedShaped
import Derived.ShutString
set_option linter.unusedVariables false
set_option maxHeartbeats 16000000
set_option maxRecDepth 100000
namespace Go.Proofs.YtdbpfbokfmpgcaaGreat.finderPlays
open Go.ChangeShapes Go.WideShapes Go.ChangeAt Go.RowKit

theorem own : ownKnob Tryz.prog.godebug = none := by kernel_rfl
theorem laidOut : laidOutB Tryz.prog = true := by kernel_rfl
theorem stKinds : Flat.flat Tryz.prog 4 41 = some [.i64, .u32, .i32, .i32, .i32, .i32, .i32, .i32, .i32, .i32, .i64] := by kernel_rfl
theorem cells41 : Tryz.prog.cellsOf 41 = 11 := by kernel_rfl

theorem lifted (os : Os) (started : os.Started) (H : Type) (enc : TypeId × Value → H) :
 ReturnsInHanded {} Tryz.checked os 3 .any (Rows.finderPlaysSpec.pre6 enc Tryz.prog Tryz.f3 Rows.finderPlaysRow.domain false) (Rows.finderPlaysSpec.post enc Tryz.prog Tryz.f3 false true false false) := by
 refine returnsInHanded_of_change_shaped (C := Tryz.checked) own started ZAB Tryz.func3
  (ChangeSpec.witness6 (enc := enc) (C := Tryz.checked) false ⟨#[], #[.int .i64 0, .int .i64 0, .slice none 0 0], []⟩ 10 ZAB ZAB ZAB ZAB) ?_
 intro W base args ds gs before hval0 hW hcnd hsz0 _ _
 have hsz : (DataW.weightsEach Tryz.prog (Tryz.f3.params.toList ++ Rows.finderPlaysSpec.plain.varTypes Tryz.prog) (ds ++ gs)).all (· ≤ reachBytes) = true := hsz0
 have hval : ∀ (j : Nat) t v, Tryz.f3.params[j]? = some t → args[j]? = some v → Value.okWide Tryz.prog W .any base t v := hval0
 have hW' := hW
 obtain ⟨p, q, hA0, hV, rfl, hfz, hnd⟩ := hW
 have hA : DataW.TrodAll enc Tryz.prog W 0 (fun _ => true) true Tryz.f3.params.toList args.toList ds p := hA0
 rw [Tryz.params3] at hA hval hsz
 obtain ⟨v0, vs0, d0, ds0, p0, q0, hargs, rfl, rfl, h0, r0⟩ := trodAll_cons hA
 obtain ⟨v1, vs1, d1, ds1, p1, q1, rfl, rfl, rfl, h1, r1⟩ := trodAll_cons r0
 obtain ⟨v2, vs2, d2, ds2, p2, q2, rfl, rfl, rfl, h2, r2⟩ := trodAll_cons r1
 obtain ⟨rfl, rfl, rfl⟩ := trodAll_nil r2
 obtain rfl : args = #[v0, v1, v2] := by cases args; simp_all
 obtain ⟨rfl, rfl⟩ := trodVars_none hV
 obtain ⟨sa, rfl⟩ := okWide_int Tryz.underlying3 (hval 0 3 v0 rfl rfl)
 obtain ⟨sb, rfl⟩ := okWide_int Tryz.underlying2 (hval 1 2 v1 rfl rfl)
 obtain ⟨va0, vl0, vc0, rfl⟩ := okWide_slice Tryz.underlying22 (hval 2 22 v2 rfl rfl)
 have k0 := h0
 have k1 := h1
 have k2 := h2
 have lt0 : ∀ x ∈ p0, x.block < W.heap.size := by obtain ⟨m, hm⟩ := k0; exact DataW.trod_lt m _ _ _ hm
 have lt1 : ∀ x ∈ p1, x.block < W.heap.size := by obtain ⟨m, hm⟩ := k1; exact DataW.trod_lt m _ _ _ hm
 have lt2 : ∀ x ∈ p2, x.block < W.heap.size := by obtain ⟨m, hm⟩ := k2; exact DataW.trod_lt m _ _ _ hm
 obtain ⟨fuel1, hf1⟩ := h2
 obtain ⟨a0, rows0, cap0, e0, m0, i0, g0⟩ := Flat.flat_slice Tryz.underlying22 stKinds cells41 ZAH hf1
 simp [Value.cells] at e0
 obtain ⟨rfl, rfl, rfl⟩ := e0
 have hl : rows0.length * 56 ≤ 140737488351232 := by
  rcases Flat.slice_data Tryz.underlying22 hf1 with h0 | ⟨es, sp, hd, hes⟩
  ·omega
  ·have := sized_slice hsz (j := 2) (t := 22) (e := 41) rfl (by rw [show d2 = DataW.slice es sp from hd]; rfl) Tryz.underlying22
   rw [show Tryz.prog.bytesOf 41 = 56 by kernel_rfl] at this
   simp only [reachBytes] at this
   omega
 clear hA0 hval0 hsz0
 refine (Fq.plays_any W sa sb _ vc0 rows0 i0 g0 hl).mono fun e W' ⟨he, bel⟩ => ?_
 subst he
 exact ⟨_, rfl, _, _, _, [], _, [], hW', trodAll_mk1 (shut_bool Tryz.underlying4 _), (trodAll_cons_mk (Below.trod laidOut ZAB (of_decide_eq_true ZAB) k0 bel lt0) (trodAll_cons_mk (Below.trod laidOut ZAB (of_decide_eq_true ZAB) k1 bel lt1) (trodAll_cons_mk (Below.trod laidOut ZAB (of_decide_eq_true ZAB) k2 bel lt2) trodAll_mk0))), rfl, bel.frame _, fun h => by cases h⟩

theorem over : Rows.finderPlaysRow.holds Tryz.pinned (OpenSpec.ofChange Rows.finderPlaysSpec) :=
 OpenClaim.holds_of_wide 3 Tryz.f3 rfl rfl rfl rfl rfl rfl rfl ⟨rfl, rfl, rfl, rfl, rfl⟩ rfl rfl rfl rfl rfl ZAB Tryz.func3 ZAB
  (of_decide_eq_true ZAB) (by unfold Func.isWrapper; first | (rw [if_pos (by decide +kernel)]; kernel_rfl) | (rw [if_neg (by decide +kernel)]; exact ⟨rfl, rfl⟩))
  (fun os started H enc _ => lifted os started H enc)

theorem proved : Rows.FinderPlaysSaid := over
#print axioms proved
end Go.Proofs.YtdbpfbokfmpgcaaGreat.finderPlays
