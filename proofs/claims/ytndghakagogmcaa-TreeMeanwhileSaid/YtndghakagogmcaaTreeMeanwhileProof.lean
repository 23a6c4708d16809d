/-
  'TreeMeanwhile' answers true for every list of numbered boxes, every box and every number; what came in reads as it did. No condition.
-/
import Derived.Test.YtndghakagogmcaaFlat2
import Derived.Test.YtndghakagogmcaaRefS
import Derived.ShutString
namespace Go.Proofs.Ytndghakagogmcaa.treeMeanwhile
open Go.ChangeShapes Go.WideShapes Go.ChangeAt Go.RowKit
set_option linter.unusedVariables false

theorem own : ownKnob Try.prog.godebug = none := by kernel_rfl
theorem laidOut : laidOutB Try.prog = true := by kernel_rfl
theorem numKinds : Flat.flat Try.prog 4 57 = some [.u32, .i32, .i32, .i32, .i32] := by kernel_rfl
theorem boxKinds : Flat.flat Try.prog 4 47 = some [.i32, .i32, .i32, .i32] := by kernel_rfl
theorem cells57 : Try.prog.cellsOf 57 = 5 := by kernel_rfl

set_option maxHeartbeats 4000000 in
set_option maxRecDepth 100000 in
theorem lifted (os : Os) (started : os.Started) (H : Type) (enc : TypeId × Value → H) :
    ReturnsInHanded {} Try.checked os 9 .any (Rows.treeMeanwhileSpec.pre6 enc Try.prog Try.f9 Rows.treeMeanwhileRow.domain false) (Rows.treeMeanwhileSpec.post enc Try.prog Try.f9 false true false false) := by
  refine returnsInHanded_of_change (C := Try.checked) own started (by kernel_rfl) Try.func9
    (ChangeSpec.witness6 (enc := enc) (C := Try.checked) false ⟨#[], #[.slice none 0 0, .agg #[.int .i32 0, .int .i32 0, .int .i32 0, .int .i32 0], .int .u32 0], []⟩ 10 (by kernel_rfl) (by kernel_rfl) (by kernel_rfl) (by kernel_rfl)) ?_
  intro W base args ds gs before hval0 hW hcnd _
  have hval : ∀ (j : Nat) t v, Try.f9.params[j]? = some t → args[j]? = some v → Value.okWide Try.prog W .any base t v := hval0
  have hW' := hW
  obtain ⟨p, q, hA0, hV, rfl, hfz, hnd⟩ := hW
  have hA : DataW.TrodAll enc Try.prog W 0 (fun _ => true) true Try.f9.params.toList args.toList ds p := hA0
  rw [Try.params9] at hA hval
  obtain ⟨v0, vs0, d0, ds0, p0, q0, hargs, rfl, rfl, h0, r0⟩ := trodAll_cons hA
  obtain ⟨v1, vs1, d1, ds1, p1, q1, rfl, rfl, rfl, h1, r1⟩ := trodAll_cons r0
  obtain ⟨v2, vs2, d2, ds2, p2, q2, rfl, rfl, rfl, h2, r2⟩ := trodAll_cons r1
  obtain ⟨rfl, rfl, rfl⟩ := trodAll_nil r2
  obtain rfl : args = #[v0, v1, v2] := by cases args; simp_all
  obtain ⟨rfl, rfl⟩ := trodVars_none hV
  obtain ⟨cs, rfl, hsz⟩ := okWide_struct Try.underlying47 (hval 1 47 v1 rfl rfl)
  obtain ⟨va0, vl0, vc0, rfl⟩ := okWide_slice Try.underlying45 (hval 0 45 v0 rfl rfl)
  have k0 := h0
  have k1 := h1
  have k2 := h2
  have lt0 : ∀ x ∈ p0, x.block < W.heap.size := by obtain ⟨m, hm⟩ := k0; exact DataW.trod_lt m _ _ _ hm
  have lt1 : ∀ x ∈ p1, x.block < W.heap.size := by obtain ⟨m, hm⟩ := k1; exact DataW.trod_lt m _ _ _ hm
  have lt2 : ∀ x ∈ p2, x.block < W.heap.size := by obtain ⟨m, hm⟩ := k2; exact DataW.trod_lt m _ _ _ hm
  obtain ⟨cut, rfl, _, _, wc⟩ := open_int Try.underlying32 (hval 2 32 v2 rfl rfl) h2
  have hc := Tree.u32_wf wc
  obtain ⟨m, rfl⟩ : ∃ m : Nat, cut = (m : Int) := ⟨cut.toNat, by omega⟩
  obtain ⟨fuel0, hf0⟩ := h0
  obtain ⟨fuel1, hf1⟩ := h1
  obtain ⟨a0, rows0, cap0, e0, m0, i0, g0⟩ := Flat.flat_slice Try.underlying45 numKinds cells57 (by decide) hf0
  obtain ⟨n0, c0, z0, w0, n1, c1, z1, w1, n2, c2, z2, w2, n3, c3, z3, w3, z4⟩ := Flat.flat_open 4 47 _ fuel1 _ _ boxKinds hf1
  subst z4 z3 z2 z1
  obtain rfl : cs = #[.int .i32 n0, .int .i32 n1, .int .i32 n2, .int .i32 n3] := by
    cases cs; simpa [Value.cells] using z0
  simp [Value.cells] at e0
  obtain ⟨rfl, rfl, rfl⟩ := e0
  have hr0 := Tree.rows5_of (cap := vc0) i0 g0
  clear hA0 hval0
  refine (Tree.mw_any W _ _ ⟨n0, n1, n2, n3⟩ m hr0 (by simpa using m0) (by omega) ⟨by show 77777 < 4294967296; decide, Tree.i32_wf w0, Tree.i32_wf w1, Tree.i32_wf w2, Tree.i32_wf w3⟩).mono fun e W' ⟨he, bel⟩ => ?_
  subst he
  exact ⟨_, rfl, _, _, _, [], _, [], hW', trodAll_mk1 (shut_bool Try.underlying4 _), (trodAll_cons_mk (Below.trod laidOut (by kernel_rfl) (of_decide_eq_true (by kernel_rfl)) k0 bel lt0) (trodAll_cons_mk (Below.trod laidOut (by kernel_rfl) (of_decide_eq_true (by kernel_rfl)) k1 bel lt1) (trodAll_cons_mk (Below.trod laidOut (by kernel_rfl) (of_decide_eq_true (by kernel_rfl)) k2 bel lt2) trodAll_mk0))), rfl, bel.frame _, fun h => by cases h⟩

theorem over : Rows.treeMeanwhileRow.holds Try.pinned (OpenSpec.ofChange Rows.treeMeanwhileSpec) :=
  OpenClaim.holds_of_wide 9 Try.f9 rfl rfl rfl rfl rfl rfl rfl ⟨rfl, rfl, rfl, rfl, rfl⟩ rfl rfl rfl rfl rfl (by kernel_rfl) Try.func9 (by kernel_rfl)
    (of_decide_eq_true (by kernel_rfl)) (by unfold Func.isWrapper; first | (rw [if_pos (by decide +kernel)]; kernel_rfl) | (rw [if_neg (by decide +kernel)]; exact ⟨rfl, rfl⟩))
    (fun os started H enc _ => lifted os started H enc)

theorem proved : Rows.TreeMeanwhileSaid := over
#print axioms proved
end Go.Proofs.Ytndghakagogmcaa.treeMeanwhile
