/-
  'TreePlays' answers true for every list of calls; what came in reads as it did. No condition.
-/
import Derived.Test.YtndghakagogmcaaRefQ
import Derived.Test.YtndghakagogmcaaFlat2
import Derived.ShutString
namespace Go.Proofs.Ytndghakagogmcaa
namespace Tree
open Go.RowKit Mem
def toSt : List Value → Stp
  | [.int _ k, .int _ id, .int _ a, .int _ b, .int _ c, .int _ d, .int _ e, .int _ f, .int _ g, .int _ h, .int _ n] => ⟨k, id.toNat, ⟨a, b, c, d⟩, e, f, g, h, n⟩
  | _ => ⟨0, 0, ⟨0, 0, 0, 0⟩, 0, 0, 0, 0, 0⟩
theorem toSt_cells {r : List Value} (h : Flat.Ints [.i64, .u32, .i32, .i32, .i32, .i32, .i32, .i32, .i32, .i32, .i64] r) : stCells (toSt r) = r ∧ El32 ((toSt r).id, (toSt r).b) := by
  obtain ⟨k, c0, rfl, v0, n, c1, rfl, w0, a, c2, rfl, w1, b, c3, rfl, w2, c, c4, rfl, w3, d, c5, rfl, w4, e, c6, rfl, w5, f, c7, rfl, w6, g, c8, rfl, w7, h, c9, rfl, w8, m, c10, rfl, w9, rfl⟩ := h
  have := u32_wf w0
  have := i32_wf w1
  have := i32_wf w2
  have := i32_wf w3
  have := i32_wf w4
  have hn : (n.toNat : Int) = n := Int.toNat_of_nonneg (by omega)
  refine ⟨by simp [toSt, stCells, hn], ?_⟩
  simp only [toSt, El32]
  omega
theorem rowsS_of {w : World} {a : Option Addr} {cap : Nat} {rows : List (List Value)} (hI : ∀ r ∈ rows, Flat.Ints [.i64, .u32, .i32, .i32, .i32, .i32, .i32, .i32, .i32, .i32, .i64] r)
    (h : ∀ i r, rows[i]? = some r → ∃ b off, a = some ⟨b, off, none⟩ ∧ b < w.heap.size ∧ ∀ j u, r[j]? = some u → w.cell? ⟨b, off + i * 11 + j, none⟩ = some u) : RowsS w (.slice a rows.length cap) (rows.map toSt) := by
  refine ⟨a, cap, by simp, ?_, ?_⟩
  · intro p hp
    obtain ⟨r, hr, rfl⟩ := List.mem_map.1 hp
    exact (toSt_cells (hI r hr)).2
  · intro i p hp
    rw [List.getElem?_map, Option.map_eq_some_iff] at hp
    obtain ⟨r, hr, rfl⟩ := hp
    obtain ⟨b, off, ha, hb, hc⟩ := h i r hr
    refine ⟨b, off, ha, hb, fun j u hj => hc j u ?_⟩
    rw [(toSt_cells (hI r (List.mem_of_getElem? hr))).1] at hj
    exact hj
end Tree
namespace treePlays
open Go.ChangeShapes Go.WideShapes Go.ChangeAt Go.RowKit
set_option linter.unusedVariables false

theorem own : ownKnob Try.prog.godebug = none := by kernel_rfl
theorem laidOut : laidOutB Try.prog = true := by kernel_rfl
theorem stKinds : Flat.flat Try.prog 4 75 = some [.i64, .u32, .i32, .i32, .i32, .i32, .i32, .i32, .i32, .i32, .i64] := by kernel_rfl
theorem cells75 : Try.prog.cellsOf 75 = 11 := by kernel_rfl

set_option maxHeartbeats 4000000 in
set_option maxRecDepth 100000 in
theorem lifted (os : Os) (started : os.Started) (H : Type) (enc : TypeId × Value → H) :
    ReturnsInHanded {} Try.checked os 12 .any (Rows.treePlaysSpec.pre6 enc Try.prog Try.f12 Rows.treePlaysRow.domain false) (Rows.treePlaysSpec.post enc Try.prog Try.f12 false true false false) := by
  refine returnsInHanded_of_change (C := Try.checked) own started (by kernel_rfl) Try.func12
    (ChangeSpec.witness6 (enc := enc) (C := Try.checked) false ⟨#[], #[.slice none 0 0], []⟩ 10 (by kernel_rfl) (by kernel_rfl) (by kernel_rfl) (by kernel_rfl)) ?_
  intro W base args ds gs before hval0 hW hcnd _
  have hval : ∀ (j : Nat) t v, Try.f12.params[j]? = some t → args[j]? = some v → Value.okWide Try.prog W .any base t v := hval0
  have hW' := hW
  obtain ⟨p, q, hA0, hV, rfl, hfz, hnd⟩ := hW
  have hA : DataW.TrodAll enc Try.prog W 0 (fun _ => true) true Try.f12.params.toList args.toList ds p := hA0
  rw [Try.params12] at hA hval
  obtain ⟨v0, vs0, d0, ds0, p0, q0, hargs, rfl, rfl, h0, r0⟩ := trodAll_cons hA
  obtain ⟨rfl, rfl, rfl⟩ := trodAll_nil r0
  obtain rfl : args = #[v0] := by cases args; simp_all
  obtain ⟨rfl, rfl⟩ := trodVars_none hV
  obtain ⟨va0, vl0, vc0, rfl⟩ := okWide_slice Try.underlying82 (hval 0 82 v0 rfl rfl)
  have k0 := h0
  have lt0 : ∀ x ∈ p0, x.block < W.heap.size := by obtain ⟨m, hm⟩ := k0; exact DataW.trod_lt m _ _ _ hm
  obtain ⟨fuel0, hf0⟩ := h0
  obtain ⟨a0, rows0, cap0, e0, m0, i0, g0⟩ := Flat.flat_slice Try.underlying82 stKinds cells75 (by decide) hf0
  simp [Value.cells] at e0
  obtain ⟨rfl, rfl, rfl⟩ := e0
  have hr0 := Tree.rowsS_of (cap := vc0) i0 g0
  clear hA0 hval0
  refine (Tree.plays_any W _ _ hr0 (by simpa using m0)).mono fun e W' ⟨he, bel⟩ => ?_
  subst he
  exact ⟨_, rfl, _, _, _, [], _, [], hW', trodAll_mk1 (shut_bool Try.underlying4 _), (trodAll_cons_mk (Below.trod laidOut (by kernel_rfl) (of_decide_eq_true (by kernel_rfl)) k0 bel lt0) trodAll_mk0), rfl, bel.frame _, fun h => by cases h⟩

theorem over : Rows.treePlaysRow.holds Try.pinned (OpenSpec.ofChange Rows.treePlaysSpec) :=
  OpenClaim.holds_of_wide 12 Try.f12 rfl rfl rfl rfl rfl rfl rfl ⟨rfl, rfl, rfl, rfl, rfl⟩ rfl rfl rfl rfl rfl (by kernel_rfl) Try.func12 (by kernel_rfl)
    (of_decide_eq_true (by kernel_rfl)) (by unfold Func.isWrapper; first | (rw [if_pos (by decide +kernel)]; kernel_rfl) | (rw [if_neg (by decide +kernel)]; exact ⟨rfl, rfl⟩))
    (fun os started H enc _ => lifted os started H enc)

theorem proved : Rows.TreePlaysSaid := over
#print axioms proved
end treePlays
end Go.Proofs.Ytndghakagogmcaa
