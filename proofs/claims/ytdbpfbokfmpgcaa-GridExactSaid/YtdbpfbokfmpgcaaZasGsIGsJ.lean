/-
GsI: a grid; Put.
GsJ: Put where the box is listed in its cells; Put whole.
-/
import Derived.Test.YtdbpfbokfmpgcaaZarGsH
namespace Go.Proofs.Ytdbpfbokfmpgcaa
open Go.RowKit Go.Shelf
set_option linter.unusedVariables false
set_option linter.unusedSimpArgs false
set_option linter.ambiguousOpen false
attribute [local go_sem] Oper.semAt_some
namespace Gs
open Mem Gr
def kvB (L : List (Nat × Bx)) : List (Nat × Value) := L.map fun p => (p.1, p.2.val)
def kvA (A : List Nat) : List (Nat × Value) := A.map fun a => (a, .bool true)
def hasB (L : List (Nat × Bx)) (id : Nat) : Bool := L.any fun p => p.1 == id
structure GridM (w : World) (G r1 r2 r3 : Nat) (s : Int) (L : List (Nat × Bx)) (A : List Nat) (M : List CE) : Prop where
  blk : Blk w G 52 [.int .i64 s, .map (some r1), .map (some r2), .map (some r3)]
  m1 : MapL kid w r1 (kvB L)
  m2 : CellsM w r2 M
  m3 : MapL kid w r3 (kvA A)
  d12 : r1 ≠ r2
  d13 : r1 ≠ r3
  d23 : r2 ≠ r3
def FpG (r1 r2 r3 : Nat) (M : List CE) (k : Nat) : Prop := k = r1 ∨ k = r2 ∨ k = r3 ∨ Own M k
section
variable {w w' : World} {G r1 r2 r3 : Nat} {s : Int} {L : List (Nat × Bx)} {A : List Nat} {M : List CE}
theorem mapL_own {α : Type} [DecidableEq α] {kv : α → Value} {r : Nat} {L : List (α × Value)} (h : MapL kv w r L) (hM : CellsM w r2 M) : ¬ Own M r := by
  rintro ⟨e, he, rfl⟩
  exact h.own_ne (hM.own e he) (by simp [CE.sl, Value.ownBlock])
theorem GridM.keeps {S : Nat → Prop} (h : GridM w G r1 r2 r3 s L A M) (hk : Keeps S w w') (hG : ¬ S G) (hf : ∀ k, FpG r1 r2 r3 M k → ¬ S k) : GridM w' G r1 r2 r3 s L A M :=
  ⟨h.blk.keeps hk hG, h.m1.keeps hk (hf _ (.inl rfl)), h.m2.keeps hk (hf _ (.inr (.inl rfl))) (fun k h => hf k (.inr (.inr (.inr h)))), h.m3.keeps hk (hf _ (.inr (.inr (.inl rfl)))), h.d12, h.d13, h.d23⟩
theorem GridM.kd (h : GridM w G r1 r2 r3 s L A M) (hk : Keeps (fun _ => False) w w') : GridM w' G r1 r2 r3 s L A M := h.keeps hk (fun h => h) (fun _ _ h => h)
theorem GridM.fp_lt (h : GridM w G r1 r2 r3 s L A M) {k : Nat} (hk : FpG r1 r2 r3 M k) : k < w.heap.size := by
  rcases hk with rfl | rfl | rfl | hk
  · exact h.m1.lt
  · exact h.m2.lt
  · exact h.m3.lt
  · exact h.m2.own_lt hk
theorem GridM.G_fp (h : GridM w G r1 r2 r3 s L A M) : ¬ FpG r1 r2 r3 M G := by
  rintro (e | e | e | e)
  · exact h.m1.ne h.blk e
  · exact h.m2.ne h.blk e
  · exact h.m3.ne h.blk e
  · exact h.m2.ne_own h.blk (by decide) e
theorem hasB_look (L : List (Nat × Bx)) (id : Nat) : (lookK id (kvB L)).isSome = hasB L id := by
  induction L with
  | nil => rfl
  | cons p L ih =>
    show (lookK id ((p.1, p.2.val) :: kvB L)).isSome = _
    rw [lookK]
    by_cases h : p.1 = id
    · simp [h, hasB]
    · rw [if_neg h, ih]; simp [hasB, h]
theorem there_t (w : World) (h : Blk w G 52 [.int .i64 s, .map (some r1), .map (some r2), .map (some r3)]) : Calls Try.prog 14 #[.pointer (some ⟨G, 0, none⟩)] w fun e w' => e = .returned (.bool true) ∧ w = w' := by
  have hm := neq_map r1
  have c := h.cell
  clear h
  go_enter Try.func14, Try.ntmps14
  go_wp2
  go_ret
  exact ⟨rfl, rfl⟩
end
/-- what Put makes of a grid -/
def putS (s : Int) (id : Nat) (b : Bx) (L : List (Nat × Bx)) (A : List Nat) (C : List (Cl × List Nat)) : List (Nat × Bx) × List Nat × List (Cl × List Nat) :=
  if ¬ Right b then (L, A, C) else if hasB L id = true then (L, A, C) else if cnt s b > 1024 then (L ++ [(id, b)], A ++ [id], C) else (L ++ [(id, b)], A, (coverL s b).foldl (addC id) C)
def putE (id : Nat) (b : Bx) (L : List (Nat × Bx)) : Int := if ¬ Right b then 142 else if hasB L id = true then 140 else 0
set_option maxHeartbeats 4000000 in
set_option maxRecDepth 100000 in
theorem put_wrong (w : World) (G r1 r2 r3 : Nat) (s : Int) (L : List (Nat × Bx)) (A : List Nat) (M : List CE) (h : GridM w G r1 r2 r3 s L A M) (id : Nat) (b : Bx) (hb : ¬ Right b) : Calls Try.prog 12 #[.pointer (some ⟨G, 0, none⟩), .int .u32 (id : Int), .agg #[.int .i32 b.x0, .int .i32 b.y0, .int .i32 b.x1, .int .i32 b.y1]] w (fun e w' => ∃ L' A' M', e = .returned (.int .i64 (putE id b L)) ∧ GridM w' G r1 r2 r3 s L' A' M' ∧ (L', A', viewE M') = putS s id b L A (viewE M) ∧ Keeps (FpG r1 r2 r3 M) w w' ∧ ∀ k, Own M' k → Own M k ∨ w.heap.size ≤ k) := by
  have k3 : Keeps (fun _ => False) w (((w.alloc (.cells #[.pointer (some ⟨G, 0, none⟩)] 23)).alloc (.cells #[.int .u32 (id : Int)] 31)).alloc (.cells #[.int .i32 b.x0, .int .i32 b.y0, .int .i32 b.x1, .int .i32 b.y1] 35)) := by (repeat (first | exact Keeps.refl _ _ | refine Keeps.alloc ?_ _ | refine Keeps.drew ?_))
  have HT := Lib.hid (h.blk.keeps k3 (fun h => h))
  have z := right_t b
  simp only [hb, decide_false] at z
  have HG := Lib.hid (And.intro h hb)
  clear h hb
  have HK := Lib.hid k3
  clear k3
  refine (callsIn_wide (n := 9)).1 ?_
  refine callsIn_of_wp_marks Try.func12 rfl trivial ?_ rfl
  simp only [Try.ntmps12, List.size_toArray, List.length_cons, List.length_nil, Nat.reduceAdd, Nat.reduceSub, Array.replicate_succ, Array.replicate_zero, List.push_toArray, List.append_toArray, List.nil_append, List.cons_append]
  gi_wp2_with (first
    | (refine ⟨trivial, ?_⟩; gi_at_call 14; refine (callsIn_wide.2 (there_t _ HT.out)).mono ?_; rintro e w1 ⟨rfl, rfl⟩)
    | (refine ⟨trivial, ?_⟩; gi_at_call 32; refine (callsIn_wide.2 (z _)).mono ?_; rintro e w4 ⟨rfl, k4⟩; have HK4 := Lib.hid (HK.out.trans k4); clear k4))
  refine ⟨_, results_tmp rfl _ _ _, L, A, M, ?_, HG.out.1.kd HK4.out, ?_, HK4.out.mono (fun _ _ h => h.elim), fun k h => .inl h⟩
  · simp [putE, HG.out.2]
  · simp [putS, HG.out.2]
theorem look_box {W : World} {r : Nat} {L : List (Nat × Bx)} (h : MapL kid W r (kvB L)) (id : Nat) : (Instr.lookup 48 (.map (some r)) (.int .u32 (id : Int)) true).run Try.prog W = .ok (.tuple #[(lookK id (kvB L)).getD (Value.agg #[.int .i32 0, .int .i32 0, .int .i32 0, .int .i32 0]), .bool (hasB L id)]) W := by
  have := h.look keyid Try.underlying48 zv37 id true
  rw [hasB_look] at this
  simpa [kid] using this
theorem look_val (L : List (Nat × Bx)) (id : Nat) : ∃ b0 : Bx, (lookK id (kvB L)).getD (Value.agg #[.int .i32 0, .int .i32 0, .int .i32 0, .int .i32 0]) = b0.val := by
  cases h : lookK id (kvB L) with
  | none => exact ⟨⟨0, 0, 0, 0⟩, rfl⟩
  | some v =>
    have := lookK_some h
    obtain ⟨p, hp, e⟩ := List.mem_map.1 this
    exact ⟨p.2, (Prod.mk.inj e).2.symm⟩
theorem put_facts {w w4 : World} {G r1 r2 r3 : Nat} {s : Int} {L : List (Nat × Bx)} {A : List Nat} {M : List CE} (h : GridM w G r1 r2 r3 s L A M) (id : Nat) (b : Bx) (k4 : Keeps (fun _ => False) (((w.alloc (.cells #[.pointer (some ⟨G, 0, none⟩)] 23)).alloc (.cells #[.int .u32 (id : Int)] 31)).alloc (.cells #[.int .i32 b.x0, .int .i32 b.y0, .int .i32 b.x1, .int .i32 b.y1] 35)) w4) :
    ∀ W', Keeps (FpG r1 r2 r3 M) w4 W' → Blk W' G 52 [.int .i64 s, .map (some r1), .map (some r2), .map (some r3)] ∧ Blk W' w.heap.size 23 [.pointer (some ⟨G, 0, none⟩)] ∧ Blk W' (w.heap.size + 1) 31 [.int .u32 (id : Int)] ∧ Blk W' (w.heap.size + 1 + 1) 35 [.int .i32 b.x0, .int .i32 b.y0, .int .i32 b.x1, .int .i32 b.y1] := by
  intro W' hk
  have k3 : Keeps (fun _ => False) w (((w.alloc (.cells #[.pointer (some ⟨G, 0, none⟩)] 23)).alloc (.cells #[.int .u32 (id : Int)] 31)).alloc (.cells #[.int .i32 b.x0, .int .i32 b.y0, .int .i32 b.x1, .int .i32 b.y1] 35)) := by (repeat (first | exact Keeps.refl _ _ | refine Keeps.alloc ?_ _ | refine Keeps.drew ?_))
  have b27 := ((Blk.new w 23 [.pointer (some ⟨G, 0, none⟩)]).alloc (.cells #[.int .u32 (id : Int)] 31)).alloc (.cells #[.int .i32 b.x0, .int .i32 b.y0, .int .i32 b.x1, .int .i32 b.y1] 35)
  have b35 := (Blk.new (w.alloc (.cells #[.pointer (some ⟨G, 0, none⟩)] 23)) 31 [.int .u32 (id : Int)]).alloc (.cells #[.int .i32 b.x0, .int .i32 b.y0, .int .i32 b.x1, .int .i32 b.y1] 35)
  have b37 := Blk.new ((w.alloc (.cells #[.pointer (some ⟨G, 0, none⟩)] 23)).alloc (.cells #[.int .u32 (id : Int)] 31)) 35 [.int .i32 b.x0, .int .i32 b.y0, .int .i32 b.x1, .int .i32 b.y1]
  simp only [World.size_alloc] at b27 b35 b37
  have hn : ∀ k, w.heap.size ≤ k → ¬ FpG r1 r2 r3 M k := fun k hk he => by have := h.fp_lt he; omega
  exact ⟨((h.blk.keeps k3 (fun h => h)).keeps k4 (fun h => h)).keeps hk h.G_fp, (b27.keeps k4 (fun h => h)).keeps hk (hn _ (Nat.le_refl _)), (b35.keeps k4 (fun h => h)).keeps hk (hn _ (by omega)), (b37.keeps k4 (fun h => h)).keeps hk (hn _ (by omega))⟩
set_option maxHeartbeats 4000000 in
set_option maxRecDepth 100000 in
theorem put_there (w : World) (G r1 r2 r3 : Nat) (s : Int) (L : List (Nat × Bx)) (A : List Nat) (M : List CE) (h : GridM w G r1 r2 r3 s L A M) (id : Nat) (b : Bx) (hb : Right b) (hh : hasB L id = true) : Calls Try.prog 12 #[.pointer (some ⟨G, 0, none⟩), .int .u32 (id : Int), .agg #[.int .i32 b.x0, .int .i32 b.y0, .int .i32 b.x1, .int .i32 b.y1]] w (fun e w' => ∃ L' A' M', e = .returned (.int .i64 (putE id b L)) ∧ GridM w' G r1 r2 r3 s L' A' M' ∧ (L', A', viewE M') = putS s id b L A (viewE M) ∧ Keeps (FpG r1 r2 r3 M) w w' ∧ ∀ k, Own M' k → Own M k ∨ w.heap.size ≤ k) := by
  have k3 : Keeps (fun _ => False) w (((w.alloc (.cells #[.pointer (some ⟨G, 0, none⟩)] 23)).alloc (.cells #[.int .u32 (id : Int)] 31)).alloc (.cells #[.int .i32 b.x0, .int .i32 b.y0, .int .i32 b.x1, .int .i32 b.y1] 35)) := by (repeat (first | exact Keeps.refl _ _ | refine Keeps.alloc ?_ _ | refine Keeps.drew ?_))
  have HT := Lib.hid (h.blk.keeps k3 (fun h => h))
  have z := right_t b
  simp only [hb, decide_true] at z
  have HG := Lib.hid (And.intro h (And.intro hb hh))
  clear h hb hh
  have HK := Lib.hid k3
  clear k3
  (refine (callsIn_wide (n := 9)).1 ?_; refine callsIn_of_wp_marks Try.func12 rfl trivial ?_ rfl; simp only [Try.ntmps12, List.size_toArray, List.length_cons, List.length_nil, Nat.reduceAdd, Nat.reduceSub, Array.replicate_succ, Array.replicate_zero, List.push_toArray, List.append_toArray, List.nil_append, List.cons_append]; gi_wp2_with (first | (refine ⟨trivial, ?_⟩; gi_at_call 14; refine (callsIn_wide.2 (there_t _ HT.out)).mono ?_; rintro e w1 ⟨rfl, rfl⟩) | (refine ⟨trivial, ?_⟩; gi_at_call 32; refine (callsIn_wide.2 (z _)).mono ?_; rintro e w4 ⟨rfl, k4⟩; have HK4 := Lib.hid (HK.out.trans k4); have hz4 : w.heap.size + 1 + 1 + 1 ≤ w4.heap.size := (by have := k4.size; simpa using this); have HQ4 := Lib.hid k4; clear k4)))
  have HN := Lib.hid (put_facts HG.out.1 id b HQ4.out)
  have HSN := Lib.hid (show ∀ W', Keeps (FpG r1 r2 r3 M) w4 W' → (∀ i : Nat, W'.cell? ⟨w.heap.size, i, none⟩ = ([.pointer (some ⟨G, 0, none⟩)] : List Value)[i]?) ∧ (∀ i : Nat, W'.cell? ⟨w.heap.size + 1, i, none⟩ = ([.int .u32 (id : Int)] : List Value)[i]?) ∧ (∀ i : Nat, W'.cell? ⟨w.heap.size + 1 + 1, i, none⟩ = ([.int .i32 b.x0, .int .i32 b.y0, .int .i32 b.x1, .int .i32 b.y1] : List Value)[i]?) ∧ (∀ i : Nat, W'.cell? ⟨G, i, none⟩ = ([.int .i64 s, .map (some r1), .map (some r2), .map (some r3)] : List Value)[i]?) from fun W' hk => by have hX := HN.out W' hk; exact ⟨hX.2.1.cell, hX.2.2.1.cell, hX.2.2.2.cell, hX.1.cell⟩)
  obtain ⟨b0, hb0⟩ := look_val L id
  have hlk1 := look_box ((HG.out.1.m1.keeps HK4.out (fun h => h)).drew) id
  have hlk2 := fun o => look_box (((HG.out.1.m1.keeps HK4.out (fun h => h)).alloc o).drew) id
  rw [hb0, HG.out.2.2] at hlk1
  simp only [hb0, HG.out.2.2] at hlk2
  simp only [Bx.val] at hlk1 hlk2
  clear hb0
  refine wpIn_wide.2 ?_
  go_region_held3 (fun W => (∀ i : Nat, W.cell? ⟨w.heap.size, i, none⟩ = ([.pointer (some ⟨G, 0, none⟩)] : List Value)[i]?) ∧ (∀ i : Nat, W.cell? ⟨w.heap.size + 1, i, none⟩ = ([.int .u32 (id : Int)] : List Value)[i]?) ∧ (∀ i : Nat, W.cell? ⟨w.heap.size + 1 + 1, i, none⟩ = ([.int .i32 b.x0, .int .i32 b.y0, .int .i32 b.x1, .int .i32 b.y1] : List Value)[i]?) ∧ (∀ i : Nat, W.cell? ⟨G, i, none⟩ = ([.int .i64 s, .map (some r1), .map (some r2), .map (some r3)] : List Value)[i]?)) (first | with_reducible assumption | exact HSN.out _ (by (repeat (first | exact Keeps.refl _ _ | refine Keeps.alloc ?_ _ | refine Keeps.drew ?_)))) (first | fail)
  all_goals
    gi_wp2
    refine (show ∀ Wx, Keeps (fun _ => False) w4 Wx → LeavesInM _ _ _ _ _ _ _ _ Wx from ?_) _ (by (repeat (first | exact Keeps.refl _ _ | refine Keeps.alloc ?_ _ | refine Keeps.drew ?_)))
    intro Wx hkx
    have hkk := HK4.out.trans hkx
    refine ⟨_, results_tmp rfl _ _ _, L, A, M, ?_, HG.out.1.kd hkk, ?_, hkk.mono (fun _ _ h => h.elim), fun k h => .inl h⟩
    · simp [putE, HG.out.2]
    · simp [putS, HG.out.2]
theorem hasB_no {L : List (Nat × Bx)} {id : Nat} (h : hasB L id = false) : ∀ p ∈ kvB L, p.1 ≠ id := by
  intro p hp e
  obtain ⟨q, hq, rfl⟩ := List.mem_map.1 hp
  have : hasB L id = true := by unfold hasB; rw [List.any_eq_true]; exact ⟨q, hq, by simpa using e⟩
  rw [h] at this; cases this
/-- a box more under a number -/
theorem GridM.boxed {w : World} {G r1 r2 r3 : Nat} {s : Int} {L : List (Nat × Bx)} {A : List Nat} {M : List CE} (h : GridM w G r1 r2 r3 s L A M) (id : Nat) (b : Bx) (hno : hasB L id = false) :
    ∃ w', (Instr.mapUpdate 48 (.map (some r1)) (.int .u32 (id : Int)) (.agg #[.int .i32 b.x0, .int .i32 b.y0, .int .i32 b.x1, .int .i32 b.y1])).run Try.prog w = .ok () w' ∧ GridM w' G r1 r2 r3 s (L ++ [(id, b)]) A M ∧ Keeps (fun k => k = r1) w w' := by
  obtain ⟨w', hrun, hm, hk⟩ := h.m1.update keyid Try.underlying48 b.val (hasB_no hno)
  refine ⟨w', hrun, ⟨h.blk.keeps hk (h.m1.ne h.blk), by simpa [kvB] using hm, h.m2.keeps hk (fun e => h.d12 e.symm) (fun k hk e => mapL_own h.m1 h.m2 (e ▸ hk)), h.m3.keeps hk (fun e => h.d13 e.symm), h.d12, h.d13, h.d23⟩, hk⟩
/-- a number more apart -/
theorem GridM.aparted {w : World} {G r1 r2 r3 : Nat} {s : Int} {L : List (Nat × Bx)} {A : List Nat} {M : List CE} (h : GridM w G r1 r2 r3 s L A M) (id : Nat) (hno : id ∉ A) :
    ∃ w', (Instr.mapUpdate 50 (.map (some r3)) (.int .u32 (id : Int)) (.bool true)).run Try.prog w = .ok () w' ∧ GridM w' G r1 r2 r3 s L (A ++ [id]) M ∧ Keeps (fun k => k = r3) w w' := by
  obtain ⟨w', hrun, hm, hk⟩ := h.m3.update keyid Try.underlying50 (k := id) (.bool true) (fun p hp e => by obtain ⟨a, ha, rfl⟩ := List.mem_map.1 hp; exact hno (e ▸ ha))
  refine ⟨w', hrun, ⟨h.blk.keeps hk (h.m3.ne h.blk), h.m1.keeps hk (fun e => h.d13 e), h.m2.keeps hk (fun e => h.d23 e) (fun k hk e => mapL_own h.m3 h.m2 (e ▸ hk)), by simpa [kvA] using hm, h.d12, h.d13, h.d23⟩, hk⟩
set_option maxHeartbeats 8000000 in
set_option maxRecDepth 100000 in
theorem put_apart (w : World) (G r1 r2 r3 : Nat) (s : Int) (hs : Size s) (L : List (Nat × Bx)) (A : List Nat) (M : List CE) (h : GridM w G r1 r2 r3 s L A M) (id : Nat) (b : Bx) (hb : Right b) (hh : hasB L id = false) (hA : id ∉ A) (hc : cnt s b > 1024) : Calls Try.prog 12 #[.pointer (some ⟨G, 0, none⟩), .int .u32 (id : Int), .agg #[.int .i32 b.x0, .int .i32 b.y0, .int .i32 b.x1, .int .i32 b.y1]] w (fun e w' => ∃ L' A' M', e = .returned (.int .i64 (putE id b L)) ∧ GridM w' G r1 r2 r3 s L' A' M' ∧ (L', A', viewE M') = putS s id b L A (viewE M) ∧ Keeps (FpG r1 r2 r3 M) w w' ∧ ∀ k, Own M' k → Own M k ∨ w.heap.size ≤ k) := by
  have k3 : Keeps (fun _ => False) w (((w.alloc (.cells #[.pointer (some ⟨G, 0, none⟩)] 23)).alloc (.cells #[.int .u32 (id : Int)] 31)).alloc (.cells #[.int .i32 b.x0, .int .i32 b.y0, .int .i32 b.x1, .int .i32 b.y1] 35)) := by (repeat (first | exact Keeps.refl _ _ | refine Keeps.alloc ?_ _ | refine Keeps.drew ?_))
  have HT := Lib.hid (h.blk.keeps k3 (fun h => h))
  have z := right_t b
  have zc := count_t s hs b hb
  simp only [hb, decide_true] at z
  have HG := Lib.hid (And.intro h (And.intro hb (And.intro hh (And.intro hA hc))))
  obtain ⟨cn, hcn⟩ : ∃ cn, cn = cnt s b := ⟨_, rfl⟩
  rw [← hcn] at zc hc
  clear h hb hh hA hcn hs
  have HK := Lib.hid k3
  clear k3
  (refine (callsIn_wide (n := 9)).1 ?_; refine callsIn_of_wp_marks Try.func12 rfl trivial ?_ rfl; simp only [Try.ntmps12, List.size_toArray, List.length_cons, List.length_nil, Nat.reduceAdd, Nat.reduceSub, Array.replicate_succ, Array.replicate_zero, List.push_toArray, List.append_toArray, List.nil_append, List.cons_append]; gi_wp2_with (first | (refine ⟨trivial, ?_⟩; gi_at_call 14; refine (callsIn_wide.2 (there_t _ HT.out)).mono ?_; rintro e w1 ⟨rfl, rfl⟩) | (refine ⟨trivial, ?_⟩; gi_at_call 32; refine (callsIn_wide.2 (z _)).mono ?_; rintro e w4 ⟨rfl, k4⟩; have HK4 := Lib.hid (HK.out.trans k4); have hz4 : w.heap.size + 1 + 1 + 1 ≤ w4.heap.size := (by have := k4.size; simpa using this); have HQ4 := Lib.hid k4; clear k4)))
  have HN := Lib.hid (put_facts HG.out.1 id b HQ4.out)
  have HSN := Lib.hid (show ∀ W', Keeps (FpG r1 r2 r3 M) w4 W' → (∀ i : Nat, W'.cell? ⟨w.heap.size, i, none⟩ = ([.pointer (some ⟨G, 0, none⟩)] : List Value)[i]?) ∧ (∀ i : Nat, W'.cell? ⟨w.heap.size + 1, i, none⟩ = ([.int .u32 (id : Int)] : List Value)[i]?) ∧ (∀ i : Nat, W'.cell? ⟨w.heap.size + 1 + 1, i, none⟩ = ([.int .i32 b.x0, .int .i32 b.y0, .int .i32 b.x1, .int .i32 b.y1] : List Value)[i]?) ∧ (∀ i : Nat, W'.cell? ⟨G, i, none⟩ = ([.int .i64 s, .map (some r1), .map (some r2), .map (some r3)] : List Value)[i]?) from fun W' hk => by have hX := HN.out W' hk; exact ⟨hX.2.1.cell, hX.2.2.1.cell, hX.2.2.2.cell, hX.1.cell⟩)
  (obtain ⟨b0, hb0⟩ := look_val L id; have hlk1 := look_box ((HG.out.1.m1.keeps HK4.out (fun h => h)).drew) id; have hlk2 := fun o => look_box (((HG.out.1.m1.keeps HK4.out (fun h => h)).alloc o).drew) id; rw [hb0, HG.out.2.2.1] at hlk1; simp only [hb0, HG.out.2.2.1] at hlk2; simp only [Bx.val] at hlk1 hlk2; clear hb0)
  refine wpIn_wide.2 ?_
  go_region_held3 (fun W => (∀ i : Nat, W.cell? ⟨w.heap.size, i, none⟩ = ([.pointer (some ⟨G, 0, none⟩)] : List Value)[i]?) ∧ (∀ i : Nat, W.cell? ⟨w.heap.size + 1, i, none⟩ = ([.int .u32 (id : Int)] : List Value)[i]?) ∧ (∀ i : Nat, W.cell? ⟨w.heap.size + 1 + 1, i, none⟩ = ([.int .i32 b.x0, .int .i32 b.y0, .int .i32 b.x1, .int .i32 b.y1] : List Value)[i]?) ∧ (∀ i : Nat, W.cell? ⟨G, i, none⟩ = ([.int .i64 s, .map (some r1), .map (some r2), .map (some r3)] : List Value)[i]?)) (first | with_reducible assumption | exact HSN.out _ (by (repeat (first | exact Keeps.refl _ _ | refine Keeps.alloc ?_ _ | refine Keeps.drew ?_)))) (first | fail)
  all_goals
    gi_wp2
    refine (show ∀ Wx, Keeps (fun _ => False) w4 Wx → Code.wpIn _ _ _ _ _ _ Wx from ?_) _ (by (repeat (first | exact Keeps.refl _ _ | refine Keeps.alloc ?_ _ | refine Keeps.drew ?_)))
    clear hlk1 hlk2
    intro Wx hk5
    obtain ⟨Wy, hup, hG5, hku⟩ := ((HG.out.1.kd (HK4.out.trans hk5)).kd (Keeps.refl (fun _ => False) Wx).drew).boxed id b HG.out.2.2.1
    have hk6 : Keeps (FpG r1 r2 r3 M) w4 Wx := hk5.mono (fun _ _ h => h.elim)
    have HK6 := Lib.hid (hk6.drew.then hku (fun i hi e => .inl e))
    have H5 := Lib.hid hG5
    clear hk5 hG5 hku
    refine wpIn_wide.2 ?_
    go_region_held3 (fun W => (∀ i : Nat, W.cell? ⟨w.heap.size, i, none⟩ = ([.pointer (some ⟨G, 0, none⟩)] : List Value)[i]?) ∧ (∀ i : Nat, W.cell? ⟨w.heap.size + 1, i, none⟩ = ([.int .u32 (id : Int)] : List Value)[i]?) ∧ (∀ i : Nat, W.cell? ⟨w.heap.size + 1 + 1, i, none⟩ = ([.int .i32 b.x0, .int .i32 b.y0, .int .i32 b.x1, .int .i32 b.y1] : List Value)[i]?) ∧ (∀ i : Nat, W.cell? ⟨G, i, none⟩ = ([.int .i64 s, .map (some r1), .map (some r2), .map (some r3)] : List Value)[i]?)) (first | with_reducible assumption | exact HSN.out _ (by first | exact HK6.out | exact hk6.drew | exact HK6.out.drew | exact HK7.out | exact HK7.out.drew | exact HK8.out | (repeat (first | exact Keeps.refl _ _ | refine Keeps.alloc ?_ _ | refine Keeps.drew ?_)))) (first | fail)
    clear hup hk6
    gi_wp2
    refine wpIn_wide.2 ?_
    go_region_held3 (fun W => (∀ i : Nat, W.cell? ⟨w.heap.size, i, none⟩ = ([.pointer (some ⟨G, 0, none⟩)] : List Value)[i]?) ∧ (∀ i : Nat, W.cell? ⟨w.heap.size + 1, i, none⟩ = ([.int .u32 (id : Int)] : List Value)[i]?) ∧ (∀ i : Nat, W.cell? ⟨w.heap.size + 1 + 1, i, none⟩ = ([.int .i32 b.x0, .int .i32 b.y0, .int .i32 b.x1, .int .i32 b.y1] : List Value)[i]?) ∧ (∀ i : Nat, W.cell? ⟨G, i, none⟩ = ([.int .i64 s, .map (some r1), .map (some r2), .map (some r3)] : List Value)[i]?)) (first | with_reducible assumption | exact HSN.out _ (by first | exact HK6.out | exact hk6.drew | exact HK6.out.drew | exact HK7.out | exact HK7.out.drew | exact HK8.out | (repeat (first | exact Keeps.refl _ _ | refine Keeps.alloc ?_ _ | refine Keeps.drew ?_)))) (first
      | (go_at_call 33; (with_reducible refine (zc _).mono ?_); rintro e w7 ⟨rfl, hk7⟩; have HK7 := Lib.hid (HK6.out.trans ((((Keeps.refl _ Wy).drew).trans hk7).mono (fun _ _ h => h.elim))); have HY7 := Lib.hid (((Keeps.refl _ Wy).drew).trans hk7); clear hk7))
    gi_wp2
    obtain ⟨Wz, hup, hG6, hku⟩ := ((H5.out.kd HY7.out).kd (Keeps.refl (fun _ => False) w7).drew).aparted id HG.out.2.2.2.1
    have HK8 := Lib.hid (HK7.out.drew.then hku (fun i hi e => .inr (.inr (.inl e))))
    have H6 := Lib.hid hG6
    clear hG6 hku
    refine wpIn_wide.2 ?_
    go_region_held3 (fun W => (∀ i : Nat, W.cell? ⟨w.heap.size, i, none⟩ = ([.pointer (some ⟨G, 0, none⟩)] : List Value)[i]?) ∧ (∀ i : Nat, W.cell? ⟨w.heap.size + 1, i, none⟩ = ([.int .u32 (id : Int)] : List Value)[i]?) ∧ (∀ i : Nat, W.cell? ⟨w.heap.size + 1 + 1, i, none⟩ = ([.int .i32 b.x0, .int .i32 b.y0, .int .i32 b.x1, .int .i32 b.y1] : List Value)[i]?) ∧ (∀ i : Nat, W.cell? ⟨G, i, none⟩ = ([.int .i64 s, .map (some r1), .map (some r2), .map (some r3)] : List Value)[i]?)) (first | with_reducible assumption | exact HSN.out _ (by first | exact HK6.out | exact hk6.drew | exact HK6.out.drew | exact HK7.out | exact HK7.out.drew | exact HK8.out | (repeat (first | exact Keeps.refl _ _ | refine Keeps.alloc ?_ _ | refine Keeps.drew ?_)))) (first | fail)
    clear hup
    gi_wp2
    refine ⟨_, results_tmp rfl _ _ _, L ++ [(id, b)], A ++ [id], M, ?_, H6.out, ?_, (HK4.out.mono (fun _ _ h => h.elim)).trans HK8.out, fun k h => .inl h⟩
    · simp [putE, HG.out.2]
    · simp [putS, HG.out.2]
end Gs
end Go.Proofs.Ytdbpfbokfmpgcaa
namespace Go.Proofs.Ytdbpfbokfmpgcaa
open Go.RowKit Go.Shelf
set_option linter.unusedVariables false
set_option linter.unusedSimpArgs false
set_option linter.ambiguousOpen false
attribute [local go_sem] Oper.semAt_some
namespace Gs
open Mem Gr
theorem coverL_len {s : Int} (hs : Size s) {b : Bx} (hb : Right b) : ((coverL s b).length : Int) = cnt s b := by
  have h1 := ediv_mono hs.1 hb.2.2.1
  have h2 := ediv_mono hs.1 hb.2.2.2
  unfold coverL cnt
  rw [List.length_flatMap]
  simp only [List.length_map, upto_len]
  rw [List.map_const', List.sum_replicate_nat, upto_len, Int.natCast_mul, Int.toNat_of_nonneg (by omega), Int.toNat_of_nonneg (by omega), Int.mul_comm]
set_option maxHeartbeats 8000000 in
set_option maxRecDepth 100000 in
theorem put_in (w : World) (G r1 r2 r3 : Nat) (s : Int) (hs : Size s) (L : List (Nat × Bx)) (A : List Nat) (M : List CE) (h : GridM w G r1 r2 r3 s L A M) (hN : ∀ e ∈ M, e.ids.length ≤ 100000) (id : Nat) (b : Bx) (hb : Right b) (hh : hasB L id = false) (hc : ¬ cnt s b > 1024) : Calls Try.prog 12 #[.pointer (some ⟨G, 0, none⟩), .int .u32 (id : Int), .agg #[.int .i32 b.x0, .int .i32 b.y0, .int .i32 b.x1, .int .i32 b.y1]] w (fun e w' => ∃ L' A' M', e = .returned (.int .i64 (putE id b L)) ∧ GridM w' G r1 r2 r3 s L' A' M' ∧ (L', A', viewE M') = putS s id b L A (viewE M) ∧ Keeps (FpG r1 r2 r3 M) w w' ∧ ∀ k, Own M' k → Own M k ∨ w.heap.size ≤ k) := by
  have k3 : Keeps (fun _ => False) w (((w.alloc (.cells #[.pointer (some ⟨G, 0, none⟩)] 23)).alloc (.cells #[.int .u32 (id : Int)] 31)).alloc (.cells #[.int .i32 b.x0, .int .i32 b.y0, .int .i32 b.x1, .int .i32 b.y1] 35)) := by (repeat (first | exact Keeps.refl _ _ | refine Keeps.alloc ?_ _ | refine Keeps.drew ?_))
  have HT := Lib.hid (h.blk.keeps k3 (fun h => h))
  have z := right_t b
  have zc := count_t s hs b hb
  simp only [hb, decide_true] at z
  have HG := Lib.hid (And.intro h (And.intro hb (And.intro hh (And.intro hc (And.intro hs hN)))))
  obtain ⟨cn, hcn⟩ : ∃ cn, cn = cnt s b := ⟨_, rfl⟩
  rw [← hcn] at zc hc
  clear h hb hh hcn hs hN
  have HK := Lib.hid k3
  clear k3
  (refine (callsIn_wide (n := 9)).1 ?_; refine callsIn_of_wp_marks Try.func12 rfl trivial ?_ rfl; simp only [Try.ntmps12, List.size_toArray, List.length_cons, List.length_nil, Nat.reduceAdd, Nat.reduceSub, Array.replicate_succ, Array.replicate_zero, List.push_toArray, List.append_toArray, List.nil_append, List.cons_append]; gi_wp2_with (first | (refine ⟨trivial, ?_⟩; gi_at_call 14; refine (callsIn_wide.2 (there_t _ HT.out)).mono ?_; rintro e w1 ⟨rfl, rfl⟩) | (refine ⟨trivial, ?_⟩; gi_at_call 32; refine (callsIn_wide.2 (z _)).mono ?_; rintro e w4 ⟨rfl, k4⟩; have HK4 := Lib.hid (HK.out.trans k4); have hz4 : w.heap.size + 1 + 1 + 1 ≤ w4.heap.size := (by have := k4.size; simpa using this); have HQ4 := Lib.hid k4; clear k4)))
  have HN := Lib.hid (put_facts HG.out.1 id b HQ4.out)
  have HSN := Lib.hid (show ∀ W', Keeps (FpG r1 r2 r3 M) w4 W' → (∀ i : Nat, W'.cell? ⟨w.heap.size, i, none⟩ = ([.pointer (some ⟨G, 0, none⟩)] : List Value)[i]?) ∧ (∀ i : Nat, W'.cell? ⟨w.heap.size + 1, i, none⟩ = ([.int .u32 (id : Int)] : List Value)[i]?) ∧ (∀ i : Nat, W'.cell? ⟨w.heap.size + 1 + 1, i, none⟩ = ([.int .i32 b.x0, .int .i32 b.y0, .int .i32 b.x1, .int .i32 b.y1] : List Value)[i]?) ∧ (∀ i : Nat, W'.cell? ⟨G, i, none⟩ = ([.int .i64 s, .map (some r1), .map (some r2), .map (some r3)] : List Value)[i]?) from fun W' hk => by have hX := HN.out W' hk; exact ⟨hX.2.1.cell, hX.2.2.1.cell, hX.2.2.2.cell, hX.1.cell⟩)
  (obtain ⟨b0, hb0⟩ := look_val L id; have hlk1 := look_box ((HG.out.1.m1.keeps HK4.out (fun h => h)).drew) id; have hlk2 := fun o => look_box (((HG.out.1.m1.keeps HK4.out (fun h => h)).alloc o).drew) id; rw [hb0, HG.out.2.2.1] at hlk1; simp only [hb0, HG.out.2.2.1] at hlk2; simp only [Bx.val] at hlk1 hlk2; clear hb0)
  refine wpIn_wide.2 ?_
  go_region_held3 (fun W => (∀ i : Nat, W.cell? ⟨w.heap.size, i, none⟩ = ([.pointer (some ⟨G, 0, none⟩)] : List Value)[i]?) ∧ (∀ i : Nat, W.cell? ⟨w.heap.size + 1, i, none⟩ = ([.int .u32 (id : Int)] : List Value)[i]?) ∧ (∀ i : Nat, W.cell? ⟨w.heap.size + 1 + 1, i, none⟩ = ([.int .i32 b.x0, .int .i32 b.y0, .int .i32 b.x1, .int .i32 b.y1] : List Value)[i]?) ∧ (∀ i : Nat, W.cell? ⟨G, i, none⟩ = ([.int .i64 s, .map (some r1), .map (some r2), .map (some r3)] : List Value)[i]?)) (first | with_reducible assumption | exact HSN.out _ (by (repeat (first | exact Keeps.refl _ _ | refine Keeps.alloc ?_ _ | refine Keeps.drew ?_)))) (first | fail)
  all_goals
    gi_wp2
    refine (show ∀ Wx, Keeps (fun _ => False) w4 Wx → Code.wpIn _ _ _ _ _ _ Wx from ?_) _ (by (repeat (first | exact Keeps.refl _ _ | refine Keeps.alloc ?_ _ | refine Keeps.drew ?_)))
    clear hlk1 hlk2
    intro Wx hk5
    obtain ⟨Wy, hup, hG5, hku⟩ := ((HG.out.1.kd (HK4.out.trans hk5)).kd (Keeps.refl (fun _ => False) Wx).drew).boxed id b HG.out.2.2.1
    have hk6 : Keeps (FpG r1 r2 r3 M) w4 Wx := hk5.mono (fun _ _ h => h.elim)
    have HK6 := Lib.hid (hk6.drew.then hku (fun i hi e => .inl e))
    have H5 := Lib.hid hG5
    clear hk5 hG5 hku
    refine wpIn_wide.2 ?_
    go_region_held3 (fun W => (∀ i : Nat, W.cell? ⟨w.heap.size, i, none⟩ = ([.pointer (some ⟨G, 0, none⟩)] : List Value)[i]?) ∧ (∀ i : Nat, W.cell? ⟨w.heap.size + 1, i, none⟩ = ([.int .u32 (id : Int)] : List Value)[i]?) ∧ (∀ i : Nat, W.cell? ⟨w.heap.size + 1 + 1, i, none⟩ = ([.int .i32 b.x0, .int .i32 b.y0, .int .i32 b.x1, .int .i32 b.y1] : List Value)[i]?) ∧ (∀ i : Nat, W.cell? ⟨G, i, none⟩ = ([.int .i64 s, .map (some r1), .map (some r2), .map (some r3)] : List Value)[i]?)) (first | with_reducible assumption | exact HSN.out _ (by first | exact HK6.out | exact hk6.drew | exact HK6.out.drew | exact HK7.out | exact HK7.out.drew | exact HK8.out | (repeat (first | exact Keeps.refl _ _ | refine Keeps.alloc ?_ _ | refine Keeps.drew ?_)))) (first | fail)
    clear hup hk6
    gi_wp2
    refine wpIn_wide.2 ?_
    go_region_held3 (fun W => (∀ i : Nat, W.cell? ⟨w.heap.size, i, none⟩ = ([.pointer (some ⟨G, 0, none⟩)] : List Value)[i]?) ∧ (∀ i : Nat, W.cell? ⟨w.heap.size + 1, i, none⟩ = ([.int .u32 (id : Int)] : List Value)[i]?) ∧ (∀ i : Nat, W.cell? ⟨w.heap.size + 1 + 1, i, none⟩ = ([.int .i32 b.x0, .int .i32 b.y0, .int .i32 b.x1, .int .i32 b.y1] : List Value)[i]?) ∧ (∀ i : Nat, W.cell? ⟨G, i, none⟩ = ([.int .i64 s, .map (some r1), .map (some r2), .map (some r3)] : List Value)[i]?)) (first | with_reducible assumption | exact HSN.out _ (by first | exact HK6.out | exact hk6.drew | exact HK6.out.drew | exact HK7.out | exact HK7.out.drew | exact HK8.out | (repeat (first | exact Keeps.refl _ _ | refine Keeps.alloc ?_ _ | refine Keeps.drew ?_)))) (first
      | (go_at_call 33; (with_reducible refine (zc _).mono ?_); rintro e w7 ⟨rfl, hk7⟩; have HK7 := Lib.hid (HK6.out.trans ((((Keeps.refl _ Wy).drew).trans hk7).mono (fun _ _ h => h.elim))); have HY7 := Lib.hid (((Keeps.refl _ Wy).drew).trans hk7); clear hk7))
    gi_wp2
    have HK8 := Lib.hid (show Keeps (FpG r1 r2 r3 M) w4 ((w7.drew.alloc (.cells #[.int .i32 b.x0, .int .i32 b.y0, .int .i32 b.x1, .int .i32 b.y1] 35)).alloc (.cells #[.int .i64 s] 2)) from (HK7.out.drew.alloc _).alloc _)
    refine wpIn_wide.2 ?_
    go_region_held3 (fun W => (∀ i : Nat, W.cell? ⟨w.heap.size, i, none⟩ = ([.pointer (some ⟨G, 0, none⟩)] : List Value)[i]?) ∧ (∀ i : Nat, W.cell? ⟨w.heap.size + 1, i, none⟩ = ([.int .u32 (id : Int)] : List Value)[i]?) ∧ (∀ i : Nat, W.cell? ⟨w.heap.size + 1 + 1, i, none⟩ = ([.int .i32 b.x0, .int .i32 b.y0, .int .i32 b.x1, .int .i32 b.y1] : List Value)[i]?) ∧ (∀ i : Nat, W.cell? ⟨G, i, none⟩ = ([.int .i64 s, .map (some r1), .map (some r2), .map (some r3)] : List Value)[i]?)) (first | with_reducible assumption | exact HSN.out _ (by first | exact HK7.out.drew | exact HK8.out)) (first
      | (go_at_call 34; (with_reducible refine (cover_t _ _ _).mono ?_); rintro e w8 ⟨rfl, rfl⟩))
    gi_wp2
    refine (show ∀ Wz, Keeps (fun _ => False) w7 Wz → Blk Wz (w7.heap.size + 1) 2 [.int .i64 s] → Blk Wz w7.heap.size 35 [.int .i32 b.x0, .int .i32 b.y0, .int .i32 b.x1, .int .i32 b.y1] → Code.wpIn _ _ _ _ _ _ Wz from ?_) _ (by (repeat (first | exact Keeps.refl _ _ | refine Keeps.alloc ?_ _ | refine Keeps.drew ?_))) (by have := (Blk.new (w7.alloc (.cells #[.int .i32 b.x0, .int .i32 b.y0, .int .i32 b.x1, .int .i32 b.y1] 35)) 2 [.int .i64 s]).drew; simpa only [World.size_alloc] using this) ((Blk.new w7 35 [.int .i32 b.x0, .int .i32 b.y0, .int .i32 b.x1, .int .i32 b.y1]).alloc _).drew
    intro Wz kz hSB hBB
    have hkz := HK7.out.trans (kz.mono (T := FpG r1 r2 r3 M) (fun _ _ h => h.elim))
    have hyz := HY7.out.trans kz
    obtain ⟨hGz, b27, b35, b37⟩ := HN.out _ hkz
    have hG6 := H5.out.kd hyz
    have hKW := (HK4.out.mono (T := FpG r1 r2 r3 M) (fun _ _ h => h.elim)).trans hkz
    have HKZ := Lib.hid hKW
    have H6 := Lib.hid hG6
    have hz0 := hKW.size
    have hz1 := hkz.size
    have hoB : ¬ Own M (w.heap.size + 1) := fun h => by have := HG.out.1.m2.own_lt h; omega
    have hlen := coverL_len HG.out.2.2.2.2.1 HG.out.2.1
    have hle := HG.out.2.2.2.1
    have HLn := Lib.hid (show (coverL s b).length ≤ 1024 from by omega)
    clear hlen hle
    refine wpIn_range (gf := 50) (lb := #[.pointer (some ⟨w7.heap.size + 1, 0, none⟩), .pointer (some ⟨w7.heap.size, 0, none⟩)]) (encs := fun c : Cl => #[.agg #[.int .i32 c.1, .int .i32 c.2]]) (xs := coverL s b) (A := fun _ => True) rfl (enters_of Try.func50 (by kernel_rfl) rfl)
      (fun W1 hk => cover_gives 8 _ _ s b HG.out.2.2.2.2.1 HG.out.2.1 W1 (hSB.keeps hk (fun h => h)) (hBB.keeps hk (fun h => h))) (fun _ => rfl)
      (PutI Wz r2 M id 100000) (fun _ _ _ _ => False) (puti_stab Wz r2 M id 100000) (fun _ _ _ _ _ _ h => h.elim)
      (fun k => k = r2 ∨ Own M k) (fun k hk => by rcases hk with rfl | hk; exact hG6.m2.lt; exact hG6.m2.own_lt hk) ⟨M, hG6.m2, rfl, fun k h => .inl h, Keeps.refl _ _, fun e he => by simpa using HG.out.2.2.2.2.2 e he, fun _ => Iff.rfl⟩ (fun _ _ => trivial)
      (PutM Wz r2 M id 100000 w.heap.size (w.heap.size + 1)) (putm_stab Wz r2 M id 100000 _ _) ?assign ?body ?done ?stop
    case assign =>
      intro l pre x rest S W hxs hI hin hlt
      have HX := Lib.hid (And.intro hI hin)
      clear hI hin hGz b27 b35 b37 hG6 hSB hBB
      gi_wp2
      obtain ⟨hI, hin⟩ := HX.out
      have ka := (Keeps.refl (fun _ => False) W).alloc (.cells #[.int .i32 x.1, .int .i32 x.2] 65)
      have hzW : Wz.heap.size ≤ W.heap.size := by obtain ⟨_, _, _, _, hk, _⟩ := hI; exact hk.size
      refine ⟨fun k => S k ∨ k = W.heap.size, ⟨ka.mono (fun _ _ h => h.elim), fun k hk => ?_⟩, fun k hk => ?_, W.heap.size, S, ⟨rfl, rfl, by simp⟩, Blk.new W 65 [.int .i32 x.1, .int .i32 x.2], puti_stab Wz r2 M id 100000 pre S (fun _ => False) W _ hI hin ka (fun _ _ h => h) (fun _ h => h.elim), hin.mono ka.size, fun h => by have := hin _ h; omega, fun _ => Iff.rfl⟩
      · rcases hk with h | h
        · exact .inl h
        · exact .inr (by omega)
      · simp only [World.size_alloc]
        rcases hk with h | h
        · have := hin k h; omega
        · omega
    case body =>
      intro l pre x rest a1 S W hxs hM hin hlt
      have hpl : pre.length ≤ 1024 := by have := HLn.out; rw [hxs] at this; simp at this; omega
      exact put_round l Wz G r1 r2 r3 _ _ id 100000 s M hGz b27 b35 hG6.m2 hoB pre x (by omega) S W a1 hM hin
    case done =>
      rintro D S' W' hD hnD hf hin ⟨M', h1, h2, h3, h4, h5, h6⟩ hDD
      have HH := Lib.hid (And.intro h1 (And.intro h2 (And.intro h3 (And.intro h4 (And.intro h6 (And.intro hD hnD))))))
      have kp := keeps_putObj W' D (.deferred none)
      have HP := Lib.hid kp
      have HDD := Lib.hid hDD
      clear kp h1 h2 h3 h4 h5 h6 hGz b27 b35 b37 hG6 hkz hyz hKW hSB hBB kz hD hnD hDD hf hin
      gi_wp2
      refine ⟨by simp, .inl ⟨_, _, rfl, run_takeDeferred HDD.out, ?_⟩⟩
      obtain ⟨h1, h2, h3, h4, h6, hD, hnD⟩ := HH.out
      have hg := H6.out
      have hn1 : ¬ (r1 = r2 ∨ Own M r1) := fun h => h.elim hg.d12 (fun h => mapL_own hg.m1 hg.m2 h)
      have hn3 : ¬ (r3 = r2 ∨ Own M r3) := fun h => h.elim (fun e => hg.d23 e.symm) (fun h => mapL_own hg.m3 hg.m2 h)
      have hnG : ¬ (G = r2 ∨ Own M G) := fun h => h.elim (hg.m2.ne hg.blk) (hg.m2.ne_own hg.blk (by decide))
      have l1 := hg.m1.lt
      have l3 := hg.m3.lt
      have lG := hg.blk.lt
      refine ⟨_, results_tmp rfl _ _ _, L ++ [(id, b)], A, M', ?_, ⟨(hg.blk.keeps h4 hnG).keeps HP.out (fun e => by omega), (hg.m1.keeps h4 hn1).keeps HP.out (fun e => by omega), h1.keeps HP.out (fun e => hnD (e ▸ (h6 _).2 (.inl rfl))) (fun k hk e => hnD (e ▸ (h6 _).2 (.inr hk))), (hg.m3.keeps h4 hn3).keeps HP.out (fun e => by omega), hg.d12, hg.d13, hg.d23⟩, ?_, ?_, fun k hk => (h3 k hk).imp (fun h => h) (fun h => by omega)⟩
      · simp [putE, HG.out.2]
      · rw [h2]; simp [putS, HG.out.2]
      · exact ((HKZ.out).then h4 (fun i hi h => h.elim (fun e => .inr (.inl e)) (fun h => .inr (.inr (.inr h))))).then HP.out (fun i hi e => by omega)
    case stop =>
      intro D c0 pre S' W' hD hnD hf hin hpre hx
      exact hx.elim
/-- Put. -/
theorem put_t (w : World) (G r1 r2 r3 : Nat) (s : Int) (hs : Size s) (L : List (Nat × Bx)) (A : List Nat) (M : List CE) (h : GridM w G r1 r2 r3 s L A M) (hN : ∀ e ∈ M, e.ids.length ≤ 100000) (hA : ∀ a ∈ A, hasB L a = true) (id : Nat) (b : Bx) : Calls Try.prog 12 #[.pointer (some ⟨G, 0, none⟩), .int .u32 (id : Int), .agg #[.int .i32 b.x0, .int .i32 b.y0, .int .i32 b.x1, .int .i32 b.y1]] w (fun e w' => ∃ L' A' M', e = .returned (.int .i64 (putE id b L)) ∧ GridM w' G r1 r2 r3 s L' A' M' ∧ (L', A', viewE M') = putS s id b L A (viewE M) ∧ Keeps (FpG r1 r2 r3 M) w w' ∧ ∀ k, Own M' k → Own M k ∨ w.heap.size ≤ k) := by
  by_cases hb : Right b
  · cases hh : hasB L id with
    | true => exact put_there w G r1 r2 r3 s L A M h id b hb hh
    | false =>
      by_cases hc : cnt s b > 1024
      · exact put_apart w G r1 r2 r3 s hs L A M h id b hb hh (fun ha => by rw [hA id ha] at hh; cases hh) hc
      · exact put_in w G r1 r2 r3 s hs L A M h hN id b hb hh hc
  · exact put_wrong w G r1 r2 r3 s L A M h id b hb
end Gs
end Go.Proofs.Ytdbpfbokfmpgcaa
