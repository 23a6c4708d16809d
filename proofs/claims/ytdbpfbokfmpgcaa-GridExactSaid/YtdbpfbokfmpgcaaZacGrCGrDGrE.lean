/-
GrC: Line at the places of 'works': one cell.
GrD: New, and Put at the one box of 'works'.
GrE: the maps of a grid at one entry; Cover, Line, Sort and Compact at no more than one element.
-/
import Derived.Test.YtdbpfbokfmpgcaaZabGrB
namespace Go.Proofs.Ytdbpfbokfmpgcaa
open Go.RowKit Go.Shelf
set_option linter.unusedVariables false
set_option linter.unusedSimpArgs false
attribute [local go_sem] Oper.semAt_some
namespace Gr
open Mem
theorem fl3 (w : World) : Calls Try.prog 54 #[.int .i64 3, .int .i64 10] w fun e w' => e = .returned (.int .i64 0) ∧ w = w' := floor_yes 3 10 w (by decide) (by decide) (by decide) (by decide)
set_option maxHeartbeats 4000000 in
theorem rows_yes (x c : Int) (w : World) : Calls Try.prog 42 #[.agg #[.int .i64 x, .int .i64 3, .int .i64 0, .int .i64 0, .int .i64 10], .int .i64 c] w (Gave (.tuple #[.int .i64 0, .int .i64 0]) w) := by
  have HB := Lib.hid (Blk.new w 83 [.int .i64 x, .int .i64 3, .int .i64 0, .int .i64 0, .int .i64 10])
  have hw : IntKind.i64.wrap 3 = 3 := by decide
  go_enter Try.func42, Try.ntmps42
  go_wp2
  go_region_held3 (fun W => ∀ i : Nat, W.cell? ⟨w.heap.size, i, none⟩ = ([.int .i64 x, .int .i64 3, .int .i64 0, .int .i64 0, .int .i64 10] : List Value)[i]?) (first | with_reducible assumption | exact HB.out.drew.cell) (first
    | (go_at_call 54; (with_reducible refine (fl3 _).mono ?_); rintro e w2 ⟨rfl, rfl⟩))
  all_goals
    go_wp2
    go_ret2
    exact ⟨rfl, by (repeat (first | exact Keeps.refl _ _ | refine Keeps.alloc ?_ _ | refine Keeps.drew ?_))⟩
theorem fld (a b : Int) (W : World) : Sem.run Try.prog (Instr.field 65 (.agg #[.int .i32 a, .int .i32 b]) 0) W = .ok (.int .i32 a) W := by kernel_rfl
set_option maxHeartbeats 8000000 in
set_option maxRecDepth 100000 in
theorem line1_gives (x c : Int) (hx : 0 ≤ x) (hx2 : x ≤ 100) (hof : ∀ w, Calls Try.prog 41 #[.agg #[.int .i32 x, .int .i32 3], .int .i64 10] w (fun e w' => e = .returned (.agg #[.int .i32 c, .int .i32 0]) ∧ ((w.alloc (.cells #[.int .i32 x, .int .i32 3] 33)).alloc (.cells #[.int .i32 c, .int .i32 0] 65)).drew = w')) (hc : 0 ≤ c) (hc2 : c ≤ 100)
    (n SB PB QB : Nat) (W : World) (hS : Blk W SB 2 [.int .i64 10]) (hP : Blk W PB 33 [.int .i32 x, .int .i32 3]) (hQ : Blk W QB 33 [.int .i32 x, .int .i32 3]) :
    Gives Try.prog n 38 #[.pointer (some ⟨SB, 0, none⟩), .pointer (some ⟨PB, 0, none⟩), .pointer (some ⟨QB, 0, none⟩)] (fun c : Int × Int => #[.agg #[.int .i32 c.1, .int .i32 c.2]]) [(c, 0)] W (fun _ => True) := by
  refine Gives.any (n := 9) ?_
  intro l J Jx S hA hJ hJx hin hY h0
  refine callsIn_of_wp Try.func38 rfl trivial ?_ rfl
  simp only [Try.ntmps38, List.size_toArray, List.length_cons, List.length_nil, Nat.reduceAdd, Nat.reduceSub, Array.replicate_succ, Array.replicate_zero, List.push_toArray, List.append_toArray, List.nil_append, List.cons_append]
  have HY := Lib.hid hY; clear hY
  have H0 := Lib.hid h0; clear h0
  have HJ := Lib.hid hJ; clear hJ
  have HX := Lib.hid hJx; clear hJx
  have cS := hS.cell 0
  have cP := hP.cell
  have cQ := hQ.cell
  simp only [List.getElem?_cons_zero] at cS
  have cP1 := fun o => (hP.alloc o).cell
  have cQ1 := fun o => (hQ.alloc o).cell
  have cS1 := fun o => (hS.alloc o).cell 0
  have cP2 := fun o1 o2 => ((hP.alloc o1).alloc o2).cell
  have cQ2 := fun o1 o2 => ((hQ.alloc o1).alloc o2).cell
  have cS2 := fun o1 o2 => ((hS.alloc o1).alloc o2).cell 0
  simp only [List.getElem?_cons_zero] at cS1 cS2
  have HS := Lib.hid hS
  have HP := Lib.hid hP
  have HQ := Lib.hid hQ
  have HO := Lib.hid hof
  have hz : x - x = 0 := by omega
  have hw : IntKind.i64.wrap x = x := IntWalk.i64_in _ (by omega)
  have HZ := Lib.hid (And.intro hc hc2)
  clear hS hP hQ hof hc hc2
  gi_wp2_with (first
    | (refine ⟨trivial, ?_⟩; gi_at_call 39; refine (callsIn_wide.2 (size_yes _)).mono ?_; rintro e w1 ⟨rfl, rfl⟩)
    | (refine ⟨trivial, ?_⟩; gi_at_call 40; refine (callsIn_wide.2 (in_yes _ _ _ hx (by decide) hx2 (by decide))).mono ?_; rintro e w1 ⟨rfl, rfl⟩))
  refine wpIn_wide.2 ?_
  have hfl := fld
  go_region_held3 (fun W1 => (∀ i : Nat, W1.cell? ⟨SB, i, none⟩ = ([.int .i64 10] : List Value)[i]?) ∧ (∀ i : Nat, W1.cell? ⟨PB, i, none⟩ = ([.int .i32 x, .int .i32 3] : List Value)[i]?) ∧ (∀ i : Nat, W1.cell? ⟨QB, i, none⟩ = ([.int .i32 x, .int .i32 3] : List Value)[i]?)) (first | with_reducible assumption | exact ⟨(HS.out.keeps (S := fun _ => False) (by (repeat (first | exact Keeps.refl _ _ | refine Keeps.alloc ?_ _ | refine Keeps.drew ?_))) (fun h => h)).cell, (HP.out.keeps (S := fun _ => False) (by (repeat (first | exact Keeps.refl _ _ | refine Keeps.alloc ?_ _ | refine Keeps.drew ?_))) (fun h => h)).cell, (HQ.out.keeps (S := fun _ => False) (by (repeat (first | exact Keeps.refl _ _ | refine Keeps.alloc ?_ _ | refine Keeps.drew ?_))) (fun h => h)).cell⟩) (first
    | (go_at_call 41; (with_reducible refine (HO.out _).mono ?_); rintro e w2 ⟨rfl, rfl⟩))
  all_goals
    obtain ⟨hc, hc2⟩ := HZ.out
    gi_wp2
    refine wpIn_loop_rounds 2 ?_
    rw [roundsIn_succ]
    gi_wp2_with (refine ⟨trivial, ?_⟩; gi_at_call 42; refine (callsIn_wide.2 (rows_yes _ _ _)).mono ?_; rintro e w1 ⟨rfl, hk⟩; have HK := Lib.hid (show Keeps (fun _ => False) W w1 from by refine Keeps.trans ?_ hk; (repeat (first | exact Keeps.refl _ _ | refine Keeps.alloc ?_ _ | refine Keeps.drew ?_))); clear hk)
    refine wpIn_loop_rounds 2 ?_
    rw [roundsIn_succ]
    obtain ⟨fn, tmps, assign, body, hy, hR⟩ := HY.out [] (c, 0) [] S w1 rfl (HJ.out [] S (fun _ => False) W w1 H0.out hin HK.out (fun _ _ h => h) (fun _ h => h.elim)) (hin.mono HK.out.size)
    have HF := Lib.hid (Foot.same (S := S) (HK.out.mono (fun _ _ h => h.elim)))
    gi_wp2
    refine (hR.mono ?_ : RoundIn _ _ _ _ _ _ _ _ _ _)
    rintro e W3 ⟨S3, hf3, hin3, (⟨rfl, hj3⟩ | ⟨rfl, hj3⟩)⟩
    · gi_wp2
      rw [roundsIn_succ]
      gi_wp2
      rw [roundsIn_succ]
      gi_wp2
      go_end0
      exact ⟨⟨_, rfl⟩, S3, HF.out.trans hf3, hin3, .inl hj3⟩
    · gi_wp2
      refine bodyPost_ret (results_none rfl _ _ _) rfl ?_
      exact ⟨⟨_, rfl⟩, S3, HF.out.trans hf3, hin3, .inr ⟨[(c, 0)], List.prefix_refl _, hj3⟩⟩
theorem line33_gives (n SB PB QB : Nat) (W : World) (hS : Blk W SB 2 [.int .i64 10]) (hP : Blk W PB 33 [.int .i32 3, .int .i32 3]) (hQ : Blk W QB 33 [.int .i32 3, .int .i32 3]) :
    Gives Try.prog n 38 #[.pointer (some ⟨SB, 0, none⟩), .pointer (some ⟨PB, 0, none⟩), .pointer (some ⟨QB, 0, none⟩)] (fun c : Int × Int => #[.agg #[.int .i32 c.1, .int .i32 c.2]]) [(0, 0)] W (fun _ => True) := line1_gives 3 0 (by decide) (by decide) of33 (by decide) (by decide) n SB PB QB W hS hP hQ
theorem line503_gives (n SB PB QB : Nat) (W : World) (hS : Blk W SB 2 [.int .i64 10]) (hP : Blk W PB 33 [.int .i32 50, .int .i32 3]) (hQ : Blk W QB 33 [.int .i32 50, .int .i32 3]) :
    Gives Try.prog n 38 #[.pointer (some ⟨SB, 0, none⟩), .pointer (some ⟨PB, 0, none⟩), .pointer (some ⟨QB, 0, none⟩)] (fun c : Int × Int => #[.agg #[.int .i32 c.1, .int .i32 c.2]]) [(5, 0)] W (fun _ => True) := line1_gives 50 5 (by decide) (by decide) of503 (by decide) (by decide) n SB PB QB W hS hP hQ
end Gr
end Go.Proofs.Ytdbpfbokfmpgcaa
namespace Go.Proofs.Ytdbpfbokfmpgcaa
open Go.RowKit Go.Shelf
set_option linter.unusedVariables false
set_option linter.unusedSimpArgs false
attribute [local go_sem] Oper.semAt_some
namespace Gr
open Mem
/-- block r is the map es -/
def Mp (w : World) (r : Nat) (es : Array MapEntry) (k : Nat) : Prop := w.heap[r]? = some (.map es k)
section
variable {w w' : World} {S : Nat → Prop} {r k : Nat} {es : Array MapEntry}
theorem Mp.lt (h : Mp w r es k) : r < w.heap.size := by
  rcases Nat.lt_or_ge r w.heap.size with hlt | hge
  · exact hlt
  · unfold Mp at h; rw [Array.getElem?_eq_none hge] at h; cases h
theorem Mp.new (w : World) (es : Array MapEntry) (k : Nat) : Mp (w.alloc (.map es k)) w.heap.size es k := heap_alloc_new w _
theorem Mp.alloc (h : Mp w r es k) (o : Obj) : Mp (w.alloc o) r es k := (Below.heap_alloc w o r h.lt).trans h
theorem Mp.drew (h : Mp w r es k) : Mp w.drew r es k := h
theorem Mp.keeps (h : Mp w r es k) (hk : Keeps S w w') (hn : ¬ S r) : Mp w' r es k := (hk.block r h.lt hn).trans h
theorem Mp.ne {b : Nat} {t : TypeId} {cs : List Value} (h : Mp w r es k) (hb : Blk w b t cs) : b ≠ r := by
  rintro rfl; unfold Mp at h; unfold Blk at hb; rw [h] at hb; cases hb
end
/-- a new grid -/
def NewG (w : World) (G r1 r2 r3 : Nat) : Prop := Blk w G 52 [.int .i64 10, .map (some r1), .map (some r2), .map (some r3)] ∧ Mp w r1 #[] 0 ∧ Mp w r2 #[] 0 ∧ Mp w r3 #[] 0 ∧ r1 ≠ r2 ∧ r1 ≠ r3 ∧ r2 ≠ r3
set_option maxHeartbeats 4000000 in
theorem new_yes (w : World) : Calls Try.prog 4 #[.int .i64 10] w fun e w' => ∃ G r1 r2 r3, e = .returned (.tuple #[.pointer (some ⟨G, 0, none⟩), .int .i64 0]) ∧ NewG w' G r1 r2 r3 ∧ Keeps (fun _ => False) w w' ∧ w.heap.size ≤ G ∧ w.heap.size ≤ r1 ∧ w.heap.size ≤ r2 ∧ w.heap.size ≤ r3 := by
  have hmm := @run_makeMap Try.prog
  go_enter Try.func4, Try.ntmps4
  go_wp2
  go_ret2
  refine ⟨w.heap.size + 1 + 1 + 1, w.heap.size, w.heap.size + 1, w.heap.size + 1 + 1, rfl, ⟨?_, ?_, ?_, ?_, by omega, by omega, by omega⟩, by (repeat (first | exact Keeps.refl _ _ | refine Keeps.alloc ?_ _ | refine Keeps.drew ?_)), by omega, Nat.le_refl _, by omega, by omega⟩
  · have := Blk.new (((w.alloc (.map #[] 0)).alloc (.map #[] 0)).alloc (.map #[] 0)) 52 [.int .i64 10, .map (some w.heap.size), .map (some (w.heap.size+1)), .map (some (w.heap.size+1+1))]
    simpa [Blk] using this
  · exact (((Mp.new w #[] 0).alloc _).alloc _).alloc _
  · have := ((Mp.new (w.alloc (.map #[] 0)) #[] 0).alloc (.map #[] 0)).alloc (.cells #[.int .i64 10, .map (some w.heap.size), .map (some (w.heap.size + 1)), .map (some (w.heap.size + 1 + 1))] 52)
    simpa [Mp] using this
  · have := (Mp.new ((w.alloc (.map #[] 0)).alloc (.map #[] 0)) #[] 0).alloc (.cells #[.int .i64 10, .map (some w.heap.size), .map (some (w.heap.size + 1)), .map (some (w.heap.size + 1 + 1))] 52)
    simpa [Mp] using this
theorem neq_map (r : Nat) (W : World) : (binOp .neq 48 (.map (some r)) (.map none)).run Try.prog W = .ok (.bool true) W := by kernel_rfl
set_option maxRecDepth 100000 in
theorem there_yes (w : World) (G r1 r2 r3 : Nat) (h : Blk w G 52 [.int .i64 10, .map (some r1), .map (some r2), .map (some r3)]) : Calls Try.prog 14 #[.pointer (some ⟨G, 0, none⟩)] w fun e w' => e = .returned (.bool true) ∧ w = w' := by
  have hm := neq_map r1
  have c := h.cell
  clear h
  go_enter Try.func14, Try.ntmps14
  go_wp2
  go_ret
  exact ⟨rfl, rfl⟩
end Gr
end Go.Proofs.Ytdbpfbokfmpgcaa
namespace Go.Proofs.Ytdbpfbokfmpgcaa
open Go.RowKit Go.Shelf
set_option linter.unusedVariables false
set_option linter.unusedSimpArgs false
attribute [local go_sem] Oper.semAt_some
namespace Gr
open Mem
def setM (w : World) (r : Nat) (es : Array MapEntry) (k : Nat) : World := { w with heap := w.heap.setIfInBounds r (.map es k) }
theorem setM_keeps (w : World) (r : Nat) (es : Array MapEntry) (k : Nat) : Keeps (fun x => x = r) w (setM w r es k) :=
  ⟨rfl, rfl, rfl, by simp [setM], fun x _ hn => by simp [setM, Array.getElem?_setIfInBounds_ne (Ne.symm hn)]⟩
theorem setM_mp {w : World} {r k0 : Nat} {es0 : Array MapEntry} (h : Mp w r es0 k0) (es : Array MapEntry) (k : Nat) : Mp (setM w r es k) r es k := by
  have := h.lt
  simp [Mp, setM, Array.getElem?_setIfInBounds_self_of_lt this]
theorem ck61 (e : Bool) (W : World) : (Instr.checkKey e 10000 31 (.int .u32 4)).run Try.prog W = .ok () W := by kernel_rfl
theorem ck62 (e : Bool) (a b : Int) (W : World) : (Instr.checkKey e 10000 65 (.agg #[.int .i32 a, .int .i32 b])).run Try.prog W = .ok () W := by kernel_rfl
theorem fk61 (W : World) : (Instr.findKey 31 (.int .u32 4) []).run Try.prog W = .ok none W := by kernel_rfl
theorem fk62 (a b : Int) (W : World) : (Instr.findKey 65 (.agg #[.int .i32 a, .int .i32 b]) []).run Try.prog W = .ok none W := by kernel_rfl
theorem fk62y (v : Value) (W : World) : (Instr.findKey 65 (.agg #[.int .i32 0, .int .i32 0]) [⟨.agg #[.int .i32 0, .int .i32 0], v, 0⟩]).run Try.prog W = .ok (some (0, v)) W := by kernel_rfl
theorem fk62n (v : Value) (W : World) : (Instr.findKey 65 (.agg #[.int .i32 5, .int .i32 0]) [⟨.agg #[.int .i32 0, .int .i32 0], v, 0⟩]).run Try.prog W = .ok none W := by kernel_rfl
theorem zv37 (W : World) : (zeroValue 35).run Try.prog W = .ok (.agg #[.int .i32 0, .int .i32 0, .int .i32 0, .int .i32 0]) W := by kernel_rfl
theorem zv53 (W : World) : (zeroValue 41).run Try.prog W = .ok (.slice none 0 0) W := by kernel_rfl
theorem lk61 {W : World} {r : Nat} (h : Mp W r #[] 0) : (Instr.lookup 48 (.map (some r)) (.int .u32 4) true).run Try.prog W = .ok (.tuple #[.agg #[.int .i32 0, .int .i32 0, .int .i32 0, .int .i32 0], .bool false]) W := by
  simp [Instr.lookup, run_underlying Try.underlying48, MapKept.run_getObj_map h, ck61, fk61, zv37, Result.andThen]
theorem up61 {W : World} {r : Nat} (h : Mp W r #[] 0) (v : Value) : (Instr.mapUpdate 48 (.map (some r)) (.int .u32 4) v).run Try.prog W = .ok () (setM W r #[⟨.int .u32 4, v, 0⟩] 1) := by
  simp [Instr.mapUpdate, run_underlying Try.underlying48, MapKept.run_getObj_map h, MapKept.run_setObj_map _ h, ck61, fk61, Result.andThen, setM]
theorem en62 {W : World} {r : Nat} (h : Mp W r #[] 0) (a b : Int) : (Instr.mapEntry 49 (.map (some r)) (.agg #[.int .i32 a, .int .i32 b])).run Try.prog W = .ok (.tuple #[.slice none 0 0, .int .i64 0]) (setM W r #[⟨.agg #[.int .i32 a, .int .i32 b], .slice none 0 0, 0⟩] 1) := by
  simp [Instr.mapEntry, run_underlying Try.underlying49, MapKept.run_getObj_map h, MapKept.run_setObj_map _ h, ck62, fk62, zv53, Result.andThen, setM, goInt]
theorem st62 {W : World} {r : Nat} {a b : Int} {u : Value} (h : Mp W r #[⟨.agg #[.int .i32 a, .int .i32 b], u, 0⟩] 1) (v : Value) : (Instr.entryStore 49 (.map (some r)) (.int .i64 0) v).run Try.prog W = .ok () (setM W r #[⟨.agg #[.int .i32 a, .int .i32 b], v, 0⟩] 1) := by
  have hi : (#[⟨.agg #[.int .i32 a, .int .i32 b], u, 0⟩] : Array MapEntry).findIdx? (fun e : MapEntry => (e.born : Int) == 0) = some 0 := by unfold Array.findIdx? Array.findIdx?.loop; simp
  simp only [Instr.entryStore, Sem.run_bind, MapKept.run_getObj_map h, Result.andThen, asInt, asIntOf, Sem.run_pure, hi, MapKept.run_setObj_map _ h]
  rfl
theorem lk62y {W : World} {r : Nat} {v : Value} (h : Mp W r #[⟨.agg #[.int .i32 0, .int .i32 0], v, 0⟩] 1) : (Instr.lookup 49 (.map (some r)) (.agg #[.int .i32 0, .int .i32 0]) false).run Try.prog W = .ok v W := by
  simp [Instr.lookup, run_underlying Try.underlying49, MapKept.run_getObj_map h, ck62, fk62y, Result.andThen]
theorem lk62n {W : World} {r : Nat} {v : Value} (h : Mp W r #[⟨.agg #[.int .i32 0, .int .i32 0], v, 0⟩] 1) : (Instr.lookup 49 (.map (some r)) (.agg #[.int .i32 5, .int .i32 0]) false).run Try.prog W = .ok (.slice none 0 0) W := by
  simp [Instr.lookup, run_underlying Try.underlying49, MapKept.run_getObj_map h, ck62, fk62n, zv53, Result.andThen]
theorem cover_any (w : World) : Calls Try.prog 34 #[.agg #[.int .i32 0, .int .i32 0, .int .i32 3, .int .i32 3], .int .i64 10] w fun e w' => e = .returned (.func (.func 50) #[] #[.pointer (some ⟨w.heap.size + 1, 0, none⟩), .pointer (some ⟨w.heap.size, 0, none⟩)]) ∧ (w.alloc (.cells #[.int .i32 0, .int .i32 0, .int .i32 3, .int .i32 3] 35)).alloc (.cells #[.int .i64 10] 2) = w' := by
  go_enter Try.func34, Try.ntmps34
  go_wp2
  go_ret
  exact ⟨rfl, rfl⟩
theorem line_any (x y : Int) (w : World) : Calls Try.prog 18 #[.agg #[.int .i32 x, .int .i32 y], .agg #[.int .i32 x, .int .i32 y], .int .i64 10] w fun e w' => e = .returned (.func (.func 38) #[] #[.pointer (some ⟨w.heap.size + 1 + 1, 0, none⟩), .pointer (some ⟨w.heap.size, 0, none⟩), .pointer (some ⟨w.heap.size + 1, 0, none⟩)]) ∧ ((w.alloc (.cells #[.int .i32 x, .int .i32 y] 33)).alloc (.cells #[.int .i32 x, .int .i32 y] 33)).alloc (.cells #[.int .i64 10] 2) = w' := by
  go_enter Try.func18, Try.ntmps18
  go_wp2
  go_ret
  exact ⟨rfl, rfl⟩
theorem insertion1 (a : Option Addr) (n c : Nat) (hn : n ≤ 1) (w : World) : Calls Try.prog 60 #[.slice a n c, .int .i64 0, .int .i64 (n : Int)] w fun e w' => (∃ v, e = .returned v) ∧ w = w' := by
  have h1 : ¬ (1 : Int) < (n : Int) := by omega
  refine (callsIn_wide (n := 9)).1 ?_
  refine callsIn_of_wp Try.func60 rfl trivial ?_ rfl
  simp only [Try.ntmps60, List.size_toArray, List.length_cons, List.length_nil, Nat.reduceAdd, Nat.reduceSub, Array.replicate_succ, Array.replicate_zero, List.push_toArray, List.append_toArray, List.nil_append, List.cons_append]
  gi_wp2
  refine wpIn_loop_rounds 1 ?_
  rw [roundsIn_succ]
  gi_wp2
  go_end0
  exact ⟨⟨_, rfl⟩, rfl⟩
theorem pdq1 (a : Option Addr) (n c : Nat) (hn : n ≤ 1) (l : Value) (w : World) : Calls Try.prog 52 #[.slice a n c, .int .i64 0, .int .i64 (n : Int), l] w fun e w' => (∃ v, e = .returned v) ∧ w = w' := by
  have h1 : (n : Int) ≤ 12 := by omega
  have h2 : IntKind.i64.wrap (n : Int) = (n : Int) := IntWalk.i64_in _ (by omega)
  refine (callsIn_wide (n := 9)).1 ?_
  refine callsIn_of_wp Try.func52 rfl trivial ?_ rfl
  simp only [Try.ntmps52, List.size_toArray, List.length_cons, List.length_nil, Nat.reduceAdd, Nat.reduceSub, Array.replicate_succ, Array.replicate_zero, List.push_toArray, List.append_toArray, List.nil_append, List.cons_append]
  gi_wp2
  refine wpIn_loop_rounds 1 ?_
  rw [roundsIn_succ]
  gi_wp2_with (refine ⟨trivial, ?_⟩; gi_at_call 60; refine (callsIn_wide.2 (insertion1 _ _ _ hn _)).mono ?_; rintro e w1 ⟨⟨v, rfl⟩, rfl⟩)
  refine bodyPost_ret (results_none rfl _ _ _) rfl ?_
  exact ⟨⟨_, rfl⟩, rfl⟩
theorem compact1 (a : Option Addr) (n c : Nat) (hn : n ≤ 1) (w : World) : Calls Try.prog 37 #[.slice a n c] w fun e w' => e = .returned (.slice a n c) ∧ w = w' := by
  have h1 : (n : Int) < 2 := by omega
  go_enter Try.func37, Try.ntmps37
  go_wp2
  go_ret
  exact ⟨rfl, rfl⟩
set_option maxRecDepth 1000000 in
set_option maxHeartbeats 4000000 in
theorem len64_yes (n : Int) (h0 : 0 ≤ n) (h : n ≤ 1) (w : World) : Calls Try.prog 70 #[.int .u64 n] w fun e w' => (∃ k, e = .returned (.int .i64 k)) ∧ w = w' := by
  rcases (by omega : n = 0 ∨ n = 1) with rfl | rfl
  all_goals
    go_enter Try.func70, Try.ntmps70
    go_wp2
    go_ret
    exact ⟨⟨_, rfl⟩, rfl⟩
theorem len_yes (n : Int) (h0 : 0 ≤ n) (h : n ≤ 1) (w : World) : Calls Try.prog 53 #[.int .u64 n] w fun e w' => (∃ k, e = .returned (.int .i64 k)) ∧ w = w' := by
  have hw : IntKind.u64.wrap n = n := IntWalk.u64_in _ (by omega)
  go_enter Try.func53, Try.ntmps53
  go_wp2_with (go_at_call 70; refine (len64_yes _ h0 h _).mono ?_; rintro e w1 ⟨⟨k, rfl⟩, rfl⟩)
  go_ret
  exact ⟨⟨_, rfl⟩, rfl⟩
theorem sort1 (a : Option Addr) (n c : Nat) (hn : n ≤ 1) (w : World) : Calls Try.prog 36 #[.slice a n c] w fun e w' => (∃ v, e = .returned v) ∧ w = w' := by
  have hw : IntKind.u64.wrap (n : Int) = (n : Int) := IntWalk.u64_in _ (by omega)
  have h2 : IntKind.i64.wrap (n : Int) = (n : Int) := IntWalk.i64_in _ (by omega)
  go_enter Try.func36, Try.ntmps36
  go_wp2_with (first
    | (go_at_call 53; refine (len_yes _ (by omega) (by omega) _).mono ?_; rintro e w1 ⟨⟨k, rfl⟩, rfl⟩)
    | (go_at_call 52; refine (pdq1 _ _ _ hn _ _).mono ?_; rintro e w1 ⟨⟨v, rfl⟩, rfl⟩))
  first
    | (go_end0; exact ⟨⟨_, rfl⟩, rfl⟩)
    | trace_state
end Gr
end Go.Proofs.Ytdbpfbokfmpgcaa
