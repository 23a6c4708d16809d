/-
MbR: the row of 'ModelBegins': it answers true for every two lists of packets; what came in reads as it did.
-/
import Derived.Test.YtdaindihobfokaaGreatDoorZawMbQ
import Derived.Test.YtdaindihobfokaaGreatDoorZbwMwO
import Derived.Test.YtdaindihobfokaaGreatDoorCards
import Derived.Test.YtdaindihobfokaaGreatDoorTie
import Derived.ProofKit
import Derived.LaidMore
import Derived.Lay
import Derived.OpenShut
import Derived.ShutString
import Derived.HandedShaped
import Derived.Stop.Joined
import Derived.SevenTiedAt
namespace Go.Proofs.YtdaindihobfokaaGreatDoor.modelBegins
open Go.ChangeShapes Go.WideShapes Go.ChangeAt Go.RowKit
set_option linter.unusedVariables false

theorem own : ownKnob Tryz.prog.godebug = none := by kernel_rfl
theorem laidOut : laidOutB Tryz.prog = true := by kernel_rfl
theorem pkKinds : FlatF.flat Tryz.prog 4 35 = some Mb.pkK := by kernel_rfl
theorem cells35 : Tryz.prog.cellsOf 35 = 11 := by kernel_rfl
theorem slice_data {H : Type} {enc : TypeId × Value → H} {P : Program} {w : World} {base : Nat} {spare : Nat → Bool} {held : Bool} {t e : TypeId} {fuel : Nat} {a : Option Addr} {n c : Nat} {x : DataW H × List MemPlace} (ht : P.underlying t = some (.slice e)) (h : DataW.trod enc P w base spare held fuel t [.slice a n c] = some x) : n = 0 ∨ ∃ es sp, x.1 = .slice es sp ∧ es.length = n := by
  rcases DataW.trod_slice ht h with ⟨h1, _⟩ | ⟨a', len, cap, elems, rest, m, _, h1, rfl, _, _, _, hlen, _⟩
  · simp at h1; exact .inl h1.2.1
  · simp at h1
    exact .inr ⟨_, _, rfl, by simp; omega⟩

set_option maxHeartbeats 4000000 in
set_option maxRecDepth 100000 in
theorem lifted (os : Os) (started : os.Started) (H : Type) (enc : TypeId × Value → H) :
    ReturnsInHanded {} Tryz.checked os 3 .any (fun w args => (Rows.modelBeginsSpec.pre enc Tryz.prog Tryz.f3 [] false w args ∧ laidMetH Tryz.prog Rows.modelBeginsRow.laid w) ∧ sizedMet enc Tryz.prog Tryz.f3 (OpenSpec.ofChange Rows.modelBeginsSpec) false w args)
      (Rows.modelBeginsSpec.post enc Tryz.prog Tryz.f3 false true false false) := by
  refine returnsInHanded_of_change_and (C := Tryz.checked) (X := fun w _ => laidMetH Tryz.prog Rows.modelBeginsRow.laid w) (fun _ _ _ hh h => h.of_heap hh) own started (by kernel_rfl) Tryz.func3
    (ChangeSpec.witness_shaped (enc := enc) (C := Tryz.checked) (os := os) (X := fun w _ => laidMetH Tryz.prog Rows.modelBeginsRow.laid w) false (World.laidAll Tryz.prog os Rows.modelBeginsRow.laid) #[.slice none 0 0, .slice none 0 0] 8 (World.laidAll_os _ _ _)
      (World.shaped_of_ZipB (by kernel_rfl) (by kernel_rfl)) (by kernel_rfl) (by kernel_rfl) (by kernel_rfl)
      (by rw [MakeChecks.laidMetH_plain _ _ _ (by kernel_rfl)]; exact laidMet_laidAll _ (by kernel_rfl) (by kernel_rfl))) ?_
  intro W base args ds gs before hval0 hW _ hsz0 hL _
  have hsz : (DataW.weightsEach Tryz.prog (Tryz.f3.params.toList ++ Rows.modelBeginsSpec.plain.varTypes Tryz.prog) (ds ++ gs)).all (· ≤ reachBytes) = true := hsz0
  have hval : ∀ (j : Nat) t v, Tryz.f3.params[j]? = some t → args[j]? = some v → Value.okWide Tryz.prog W .any base t v := hval0
  have hW' := hW
  obtain ⟨p, q, hA0, hV, rfl, hfz, hnd⟩ := hW
  have hA : DataW.TrodAll enc Tryz.prog W 0 (fun _ => true) true Tryz.f3.params.toList args.toList ds p := hA0
  rw [Tryz.params3] at hA hval hsz
  obtain ⟨v0, v1, d0, d1, p0, p1, rfl, rfl, rfl, h0, h1⟩ := trodAll_two hA
  obtain ⟨rfl, rfl⟩ := trodVars_none hV
  obtain ⟨va0, vl0, vc0, rfl⟩ := okWide_slice Tryz.underlying22 (hval 0 22 v0 rfl rfl)
  obtain ⟨va1, vl1, vc1, rfl⟩ := okWide_slice Tryz.underlying22 (hval 1 22 v1 rfl rfl)
  have k0 := h0
  have k1 := h1
  have lt0 : ∀ x ∈ p0, x.block < W.heap.size := by obtain ⟨m, hm⟩ := k0; exact DataW.trod_lt m _ _ _ hm
  have lt1 : ∀ x ∈ p1, x.block < W.heap.size := by obtain ⟨m, hm⟩ := k1; exact DataW.trod_lt m _ _ _ hm
  obtain ⟨fuel0, hf0⟩ := h0
  obtain ⟨fuel1, hf1⟩ := h1
  obtain ⟨a0, rows0, cap0, e0, c0, m0, i0, g0⟩ := FlatF.flat_slice Tryz.underlying22 pkKinds cells35 (by decide) hf0
  obtain ⟨a1, rows1, cap1, e1, c1, m1, i1, g1⟩ := FlatF.flat_slice Tryz.underlying22 pkKinds cells35 (by decide) hf1
  simp [Value.cells] at e0 e1
  obtain ⟨rfl, rfl, rfl⟩ := e0
  obtain ⟨rfl, rfl, rfl⟩ := e1
  have l0 : rows0.length * 64 ≤ 140737488355328 := by
    rcases slice_data Tryz.underlying22 hf0 with h0 | ⟨es, sp, hd, hes⟩
    · omega
    · have := sized_slice hsz (j := 0) (t := 22) (e := 35) rfl (by rw [show d0 = DataW.slice es sp from hd]; rfl) Tryz.underlying22
      rw [show Tryz.prog.bytesOf 35 = 64 by kernel_rfl] at this
      simp only [reachBytes] at this
      omega
  have l1 : rows1.length * 64 ≤ 140737488355328 := by
    rcases slice_data Tryz.underlying22 hf1 with h0 | ⟨es, sp, hd, hes⟩
    · omega
    · have := sized_slice hsz (j := 1) (t := 22) (e := 35) rfl (by rw [show d1 = DataW.slice es sp from hd]; rfl) Tryz.underlying22
      rw [show Tryz.prog.bytesOf 35 = 64 by kernel_rfl] at this
      simp only [reachBytes] at this
      omega
  clear hA0 hval0 hsz0
  refine (Mb.begins_any W _ _ rows0 rows1 vc0 vc1 i0 i1 c0 c1 g0 g1 l0 l1 Mw.works_t).mono fun e W' ⟨he, bel⟩ => ?_
  subst he
  exact ⟨_, rfl, _, _, _, [], _, [], hW', trodAll_mk1 (shut_bool Tryz.underlying4 _), (trodAll_cons_mk (Below.trod laidOut (by kernel_rfl) (of_decide_eq_true (by kernel_rfl)) k0 bel lt0) (trodAll_cons_mk (Below.trod laidOut (by kernel_rfl) (of_decide_eq_true (by kernel_rfl)) k1 bel lt1) trodAll_mk0)), rfl, bel.frame _, fun h => by cases h⟩

/- The closed facts of the row, a lemma each: in one declaration the kernel outgrows its lid. -/
theorem and_t {a b : Bool} (h : a = true) (k : b = true) : (a && b) = true := by rw [h, k]; rfl
set_option maxHeartbeats 4000000 in
set_option maxRecDepth 100000 in
theorem joined : joinedFacts Tryz.prog 3 Tryz.f3 Rows.modelBeginsSpec Rows.modelBeginsRow = true := by
  unfold joinedFacts
  repeat' (with_reducible refine and_t ?_ ?_)
  all_goals (as_aux_lemma => kernel_rfl)

theorem row : Rows.ModelBeginsSaid :=
  OpenClaim.holds_of_wide 3 Tryz.f3 rfl rfl rfl rfl rfl rfl rfl ⟨rfl, rfl, rfl, rfl, rfl⟩ rfl rfl rfl rfl rfl (by kernel_rfl) Tryz.func3 joined
    (of_decide_eq_true (by kernel_rfl)) (by unfold Func.isWrapper; first | (rw [if_pos (by decide +kernel)]; kernel_rfl) | (rw [if_neg (by decide +kernel)]; exact ⟨rfl, rfl⟩))
    (fun os started H enc _ => lifted os started H enc)

end Go.Proofs.YtdaindihobfokaaGreatDoor.modelBegins
