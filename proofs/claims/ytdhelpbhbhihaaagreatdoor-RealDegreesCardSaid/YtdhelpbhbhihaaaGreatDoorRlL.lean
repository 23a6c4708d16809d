/-
  RlL: what the listed variables' readings say of their cells.
-/
import Derived.Test.YtdhelpbhbhihaaaGreatDoorRlK
import Derived.Test.YtdhelpbhbhihaaaGreatDoorRows
import Derived.LaidSub
import Derived.LaidMore
import Derived.OpenShut
import Derived.Deep.Strs
import Derived.ProofKit
import Derived.Laws.IdiomArrays
namespace Go.Proofs.YtdhelpbhbhihaaaGreatDoor
open Go.RowKit Go.Shelf
set_option linter.unusedVariables false
set_option linter.unusedSimpArgs false
namespace Rl
open Mem
theorem lay_one {P : Program} {W : World} {laid : List (String × DataW Unit)} (h : laidMetH P laid W) (name : String) (d : DataW Unit) (hm : laid.filter (fun x => x.1 == name) = [(name, d)]) (hd : d.handleName? = none) :
    ∃ g t cs fuel p, P.globalNamed name = some g ∧ (P.globals[g]?).map (·.type) = some t ∧ W.var? P name = some cs ∧ DataW.trod (fun _ => ()) P W 0 (fun _ => true) false fuel t cs.toList = some (d, p) := by
  have h1 := h.filter (fun x => x.1 == name)
  rw [hm] at h1
  have h2 := (laidMetH_iff.1 h1).1
  have e : ([(name, d)].filter fun x : String × DataW Unit => x.2.handleName?.isNone) = [(name, d)] := by simp [hd]
  rw [e] at h2
  obtain ⟨ps, ⟨g, t, cs, fuel, p, q, hg, ht, hv, hdd, _, _⟩, _, _⟩ := h2
  exact ⟨g, t, cs, fuel, p, hg, ht, hv, hdd⟩
theorem cell_lt {w : World} {b : Nat} {i : Nat} {v : Value} (h : w.cell? ⟨b, i, none⟩ = some v) : b < w.heap.size := by
  rcases Nat.lt_or_ge b w.heap.size with h' | h'
  · exact h'
  · simp [World.cell?, Array.getElem?_eq_none h'] at h
theorem trod_flt {H : Type} {enc : TypeId × Value → H} {P : Program} {w : World} {base : Nat} {spare : Nat → Bool} {held : Bool} {fuel : Nat} {t : TypeId} {cs : List Value} {x : DataW H × List MemPlace} {k : FloatKind} (ht : P.underlying t = some (.float k)) (h : DataW.trod enc P w base spare held fuel t cs = some x) : ∃ b, cs = [.float k b] ∧ x = (.lit (.float k b), []) := by
  cases fuel with
  | zero => simp [DataW.trod] at h
  | succ n =>
    unfold DataW.trod at h
    rw [ht] at h
    split at h <;> simp_all
/-- what of the rows' lists 'lives' comes to -/
structure Lists (laid : List (String × DataW Unit)) : Prop where
  opt : laid.filter (fun x => x.1 == "internal/strconv.optimize") = [("internal/strconv.optimize", .lit (.bool true))]
  info : laid.filter (fun x => x.1 == "internal/strconv.float64info") = [("internal/strconv.float64info", Rows.laid_internal_strconv_float64info)]
  pow : laid.filter (fun x => x.1 == "internal/strconv.float64pow10") = [("internal/strconv.float64pow10", Rows.laid_internal_strconv_float64pow10)]
  ten : laid.filter (fun x => x.1 == "internal/strconv.uint64pow10") = [("internal/strconv.uint64pow10", Rows.laid_internal_strconv_uint64pow10)]
  tab : laid.filter (fun x => x.1 == "internal/strconv.pow10Tab") = [("internal/strconv.pow10Tab", Go.Pinned.pow10Tab)]
section
variable {W : World} {laid : List (String × DataW Unit)} (h : laidMetH Tryz.prog laid W) (hl : Lists laid)
include h hl
theorem of_opt : W.cell? ⟨5, 0, none⟩ = some (.bool true) := by
  obtain ⟨g, t, cs, fuel, p, hg, ht, hv, hd⟩ := lay_one h _ _ hl.opt rfl
  obtain rfl := Option.some.inj ((show Tryz.prog.globalNamed "internal/strconv.optimize" = some 5 by kernel_rfl).symm.trans hg)
  obtain rfl := Option.some.inj ((show (Tryz.prog.globals[5]?).map (·.type) = some 4 by kernel_rfl).symm.trans ht)
  obtain ⟨b, e1, e2⟩ := DataW.trod_bool Tryz.underlying4 hd
  simp only [Prod.mk.injEq, DataW.lit.injEq, Lit.bool.injEq] at e2
  obtain ⟨rfl, -⟩ := e2
  have e0 := World.var?_cell hg hv 0
  rw [e0, ← Array.getElem?_toList, e1]
  rfl
theorem of_info : W.cell? ⟨9, 0, none⟩ = some (.int .u64 52) := by
  obtain ⟨g, t, cs, fuel, p, hg, ht, hv, hd⟩ := lay_one h _ _ hl.info rfl
  obtain rfl := Option.some.inj ((show Tryz.prog.globalNamed "internal/strconv.float64info" = some 9 by kernel_rfl).symm.trans hg)
  obtain rfl := Option.some.inj ((show (Tryz.prog.globals[9]?).map (·.type) = some 178 by kernel_rfl).symm.trans ht)
  obtain ⟨xs, m, -, ex, hln, hxs, hel⟩ := DataW.trod_struct Tryz.underlying178 hd
  have hE := hel 0 _ rfl
  have c1 : Tryz.prog.cellsOf 89 = 1 := by kernel_rfl
  have em : xs.map (·.1) = [.lit (.int .u64 52), .lit (.int .u64 11), .lit (.int .i64 (-1023))] := (DataW.agg.inj (Prod.mk.inj ex).1).symm
  match xs, em with
  | [y0, y1, y2], em =>
    simp only [List.map_cons, List.map_nil, List.cons.injEq] at em
    replace hE : DataW.trod (fun _ => ()) Tryz.prog W 0 (fun _ => true) false m 89 ((cs.toList.drop 0).take (Tryz.prog.cellsOf 89)) = some y0 := hE
    rw [c1] at hE
    obtain ⟨z, e1, e2, -⟩ := DataW.trod_int Tryz.underlying89 hE
    rw [e2] at em
    simp only [DataW.lit.injEq, Lit.int.injEq, true_and] at em
    have e0 := World.var?_cell hg hv 0
    rw [e0, ← Array.getElem?_toList]
    have h0 : ((cs.toList.drop 0).take 1)[0]? = some (.int .u64 z) := by rw [e1]; rfl
    rw [em.1] at h0
    simpa using h0
set_option maxRecDepth 100000 in
theorem of_ten : W.cell? ⟨4, 15, none⟩ = some (.int .u64 1000000000000000) := by
  obtain ⟨g, t, cs, fuel, p, hg, ht, hv, hd⟩ := lay_one h _ _ hl.ten rfl
  obtain rfl := Option.some.inj ((show Tryz.prog.globalNamed "internal/strconv.uint64pow10" = some 4 by kernel_rfl).symm.trans hg)
  obtain rfl := Option.some.inj ((show (Tryz.prog.globals[4]?).map (·.type) = some 138 by kernel_rfl).symm.trans ht)
  obtain ⟨xs, m, -, ex, hln, hxs, hel⟩ := DataW.trod_array Tryz.underlying138 hd
  have hE := hel 15 (by decide)
  have c1 : Tryz.prog.cellsOf 28 = 1 := by kernel_rfl
  have hi : 15 < xs.length := by rw [hxs]; decide
  rw [c1, List.getElem?_eq_getElem hi] at hE
  obtain ⟨z, e1, e2, -⟩ := DataW.trod_int Tryz.underlying28 hE
  have em := (DataW.agg.inj (Prod.mk.inj ex).1).symm
  have e4 : (xs.map (·.1))[15]? = some (.lit (.int .u64 1000000000000000)) := by rw [em]; rfl
  rw [List.getElem?_map, List.getElem?_eq_getElem hi, e2] at e4
  simp only [Option.map_some, Option.some.injEq, DataW.lit.injEq, Lit.int.injEq, true_and] at e4
  have e0 := World.var?_cell hg hv 15
  rw [e0, ← Array.getElem?_toList]
  have h0 : ((cs.toList.drop (15 * 1)).take 1)[0]? = some (.int .u64 z) := by rw [e1]; rfl
  rw [e4] at h0
  simpa using h0
set_option maxRecDepth 100000 in
theorem of_tab : W.cell? ⟨15, 728, none⟩ = some (.int .u64 10240000000000000000) ∧ W.cell? ⟨15, 729, none⟩ = some (.int .u64 0) := by
  obtain ⟨g, t, cs, fuel, p, hg, ht, hv, hd⟩ := lay_one h _ _ hl.tab rfl
  obtain rfl := Option.some.inj ((show Tryz.prog.globalNamed "internal/strconv.pow10Tab" = some 15 by kernel_rfl).symm.trans hg)
  obtain rfl := Option.some.inj ((show (Tryz.prog.globals[15]?).map (·.type) = some 211 by kernel_rfl).symm.trans ht)
  obtain ⟨xs, m, -, ex, hln, hxs, hel⟩ := DataW.trod_array Tryz.underlying211 hd
  have hE := hel 364 (by decide)
  have c2 : Tryz.prog.cellsOf 210 = 2 := by kernel_rfl
  have c1 : Tryz.prog.cellsOf 28 = 1 := by kernel_rfl
  have hi : 364 < xs.length := by rw [hxs]; decide
  rw [c2, List.getElem?_eq_getElem hi] at hE
  have em := (DataW.agg.inj (Prod.mk.inj ex).1).symm
  have e4 : (xs.map (·.1))[364]? = some (.agg [.lit (.int .u64 10240000000000000000), .lit (.int .u64 0)]) := by rw [em]; kernel_rfl
  rw [List.getElem?_map, List.getElem?_eq_getElem hi] at e4
  simp only [Option.map_some, Option.some.injEq] at e4
  obtain ⟨ys, m2, -, ey, hl2, hys, hel2⟩ := DataW.trod_struct Tryz.underlying210 hE
  have ey1 := congrArg Prod.fst ey
  rw [e4] at ey1
  have em2 : ys.map (·.1) = [.lit (.int .u64 10240000000000000000), .lit (.int .u64 0)] := (DataW.agg.inj ey1).symm
  match ys, em2 with
  | [y0, y1], em2 =>
    simp only [List.map_cons, List.map_nil, List.cons.injEq] at em2
    have hA := hel2 0 _ rfl
    have hB := hel2 1 _ rfl
    replace hA : DataW.trod (fun _ => ()) Tryz.prog W 0 (fun _ => true) false m2 28 ((((cs.toList.drop (364 * 2)).take 2).drop 0).take (Tryz.prog.cellsOf 28)) = some y0 := hA
    replace hB : DataW.trod (fun _ => ()) Tryz.prog W 0 (fun _ => true) false m2 28 ((((cs.toList.drop (364 * 2)).take 2).drop 1).take (Tryz.prog.cellsOf 28)) = some y1 := hB
    rw [c1] at hA hB
    obtain ⟨z, e1, e2, -⟩ := DataW.trod_int Tryz.underlying28 hA
    obtain ⟨z', e1', e2', -⟩ := DataW.trod_int Tryz.underlying28 hB
    rw [e2, e2'] at em2
    simp only [DataW.lit.injEq, Lit.int.injEq, true_and] at em2
    have e0 := World.var?_cell hg hv 728
    have e0' := World.var?_cell hg hv 729
    rw [e0, e0', ← Array.getElem?_toList, ← Array.getElem?_toList]
    have h0 : ((((cs.toList.drop (364 * 2)).take 2).drop 0).take 1)[0]? = some (.int .u64 z) := by rw [e1]; rfl
    have h1 : ((((cs.toList.drop (364 * 2)).take 2).drop 1).take 1)[0]? = some (.int .u64 z') := by rw [e1']; rfl
    rw [em2.1] at h0
    rw [em2.2.1] at h1
    exact ⟨by simpa using h0, by simpa using h1⟩
set_option maxRecDepth 100000 in
theorem of_pow : ∃ b off cap, W.cell? ⟨14, 0, none⟩ = some (.slice (some ⟨b, off, none⟩) 23 cap) ∧ W.cell? ⟨b, off + 1, none⟩ = some (.float .f64 4621819117588971520) := by
  obtain ⟨g, t, cs, fuel, p, hg, ht, hv, hd⟩ := lay_one h _ _ hl.pow rfl
  obtain rfl := Option.some.inj ((show Tryz.prog.globalNamed "internal/strconv.float64pow10" = some 14 by kernel_rfl).symm.trans hg)
  obtain rfl := Option.some.inj ((show (Tryz.prog.globals[14]?).map (·.type) = some 23 by kernel_rfl).symm.trans ht)
  obtain ⟨a, cap, hcs, -, hel⟩ := open_row Tryz.underlying23 (by kernel_rfl) hd
  obtain ⟨v0, n0, q0, hc0, hr0⟩ := hel 0 _ rfl
  obtain ⟨v1, n1, q1, hc1, hr1⟩ := hel 1 _ rfl
  obtain ⟨z, e1, e2⟩ := trod_flt Tryz.underlying25 hr1
  simp only [Prod.mk.injEq, DataW.lit.injEq, Lit.float.injEq, true_and] at e2
  obtain ⟨rfl, -⟩ := e2
  obtain rfl := (List.cons.inj e1).1
  obtain ⟨b, off, spot⟩ := a
  have hspot : spot = none := by simpa [Addr.add] using World.cell?_spot hc0
  subst hspot
  have e0 := World.var?_cell hg hv 0
  refine ⟨b, off, cap, ?_, ?_⟩
  · rw [e0, ← Array.getElem?_toList, hcs]
    rfl
  · rw [← hc1]
    congr 1
theorem laid_tabs : Tabs W :=
  ⟨(of_tab h hl).1, (of_tab h hl).2, cell_lt (of_tab h hl).1, of_ten h hl, cell_lt (of_ten h hl)⟩
theorem laid_vars : VarsIn W := by
  obtain ⟨b, off, cap, h1, h2⟩ := of_pow h hl
  refine ⟨⟨of_opt h hl, of_info h hl, ⟨b, off, cap, h1, h2⟩⟩, ⟨cell_lt (of_opt h hl), cell_lt (of_info h hl), cell_lt h1⟩, ?_⟩
  intro b' off' cap' h'
  rw [h1] at h'
  simp only [Option.some.injEq, Value.slice.injEq, Addr.mk.injEq] at h'
  obtain ⟨⟨rfl, -, -⟩, -, -⟩ := h'
  exact cell_lt h2
theorem lives_laid : Calls Tryz.prog 7 #[] W fun e w' => e = .returned (.bool true) ∧ Below W.heap.size W w' :=
  lives_of (prints_of formats_at) W (laid_vars h hl) (laid_tabs h hl)
end
end Rl
end Go.Proofs.YtdhelpbhbhihaaaGreatDoor
