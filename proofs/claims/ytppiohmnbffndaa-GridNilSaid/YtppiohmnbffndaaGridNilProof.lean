/-
  'GridNil' answers true for every step; what came in reads as it did. No condition.
-/
import Derived.Test.YtppiohmnbffndaaGrN
import Derived.Test.YtppiohmnbffndaaFlat
import Derived.ShutString
namespace Go.Proofs.Ytppiohmnbffndaa.gridNil
open Go.ChangeShapes Go.WideShapes Go.ChangeAt Go.RowKit
set_option linter.unusedVariables false

theorem own : ownKnob Try.prog.godebug = none := by kernel_rfl
theorem laidOut : laidOutB Try.prog = true := by kernel_rfl
theorem stepKinds : Flat.flat Try.prog 4 52 = some [.i64, .u32, .i32, .i32, .i32, .i32, .i32, .i32, .i32, .i32] := by kernel_rfl

set_option maxRecDepth 100000 in
theorem lifted (os : Os) (started : os.Started) (H : Type) (enc : TypeId × Value → H) :
    ReturnsInHanded {} Try.checked os 5 .any (Rows.gridNilSpec.pre6 enc Try.prog Try.f5 Rows.gridNilRow.domain false) (Rows.gridNilSpec.post enc Try.prog Try.f5 false true false false) := by
  refine returnsInHanded_of_change (C := Try.checked) own started (by kernel_rfl) Try.func5
    (ChangeSpec.witness6 (enc := enc) (C := Try.checked) false ⟨#[], #[.agg #[.int .i64 0, .int .u32 0, .int .i32 0, .int .i32 0, .int .i32 0, .int .i32 0, .int .i32 0, .int .i32 0, .int .i32 0, .int .i32 0]], []⟩ 5 (by kernel_rfl) (by kernel_rfl) (by kernel_rfl) (by kernel_rfl)) ?_
  intro W base args ds gs before hval0 hW hcnd _
  have hval : ∀ (j : Nat) t v, Try.f5.params[j]? = some t → args[j]? = some v → Value.okWide Try.prog W .any base t v := hval0
  have hW' := hW
  obtain ⟨p, q, hA0, hV, rfl, hfz, hnd⟩ := hW
  have hA : DataW.TrodAll enc Try.prog W 0 (fun _ => true) true Try.f5.params.toList args.toList ds p := hA0
  rw [Try.params5] at hA hval
  obtain ⟨v0, vs0, d0, ds0, p0, q0, hargs, rfl, rfl, h0, r0⟩ := trodAll_cons hA
  obtain ⟨rfl, rfl, rfl⟩ := trodAll_nil r0
  obtain rfl : args = #[v0] := by cases args; simp_all
  obtain ⟨rfl, rfl⟩ := trodVars_none hV
  obtain ⟨cs, rfl, hsz⟩ := okWide_struct Try.underlying52 (hval 0 52 v0 rfl rfl)
  have k0 := h0
  have lt0 : ∀ x ∈ p0, x.block < W.heap.size := by obtain ⟨m, hm⟩ := k0; exact DataW.trod_lt m _ _ _ hm
  obtain ⟨fuel, hf⟩ := h0
  obtain ⟨n0, c0, e0, _, n1, c1, e1, _, n2, c2, e2, _, n3, c3, e3, _, n4, c4, e4, _, n5, c5, e5, _, n6, c6, e6, _, n7, c7, e7, _, n8, c8, e8, _, n9, c9, e9, _, e10⟩ := Flat.flat_open 4 52 _ fuel _ _ stepKinds hf
  subst e10 e9 e8 e7 e6 e5 e4 e3 e2 e1
  obtain rfl : cs = #[.int .i64 n0, .int .u32 n1, .int .i32 n2, .int .i32 n3, .int .i32 n4, .int .i32 n5, .int .i32 n6, .int .i32 n7, .int .i32 n8, .int .i32 n9] := by
    cases cs; simpa [Value.cells] using e0
  clear hA0 hval0
  refine (Gr.nil_any n0 n1 n2 n3 n4 n5 n6 n7 n8 n9 W).mono fun e W' ⟨he, bel⟩ => ?_
  subst he
  exact ⟨_, rfl, _, _, _, [], _, [], hW', trodAll_mk1 (shut_bool Try.underlying4 _), (trodAll_cons_mk (Below.trod laidOut (by kernel_rfl) (of_decide_eq_true (by kernel_rfl)) k0 bel lt0) trodAll_mk0), rfl, bel.frame _, fun h => by cases h⟩

theorem over : Rows.gridNilRow.holds Try.pinned (OpenSpec.ofChange Rows.gridNilSpec) :=
  OpenClaim.holds_of_wide 5 Try.f5 rfl rfl rfl rfl rfl rfl rfl ⟨rfl, rfl, rfl, rfl, rfl⟩ rfl rfl rfl rfl rfl (by kernel_rfl) Try.func5 (by kernel_rfl)
    (of_decide_eq_true (by kernel_rfl)) (by unfold Func.isWrapper; first | (rw [if_pos (by decide +kernel)]; kernel_rfl) | (rw [if_neg (by decide +kernel)]; exact ⟨rfl, rfl⟩))
    (fun os started H enc _ => lifted os started H enc)

theorem proved : Rows.GridNilSaid := over
#print axioms proved
end Go.Proofs.Ytppiohmnbffndaa.gridNil
