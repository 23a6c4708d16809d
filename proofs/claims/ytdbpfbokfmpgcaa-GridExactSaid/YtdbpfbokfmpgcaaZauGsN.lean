/-
GsN: Del.
-/
import Derived.Test.YtdbpfbokfmpgcaaZatGsKGsL
namespace Go.Proofs.Ytdbpfbokfmpgcaa
open Go.RowKit Go.Shelf
set_option linter.unusedVariables false
set_option linter.unusedSimpArgs false
set_option linter.ambiguousOpen false
attribute [local go_sem] Oper.semAt_some
namespace Gs
open Mem Gr
def delB (id : Nat) (L : List (Nat × Bx)) : List (Nat × Bx) := L.filter fun p => decide (p.1 ≠ id)
def delA (id : Nat) (A : List Nat) : List Nat := A.filter fun a => decide (a ≠ id)
theorem delK_kvB (id : Nat) (L : List (Nat × Bx)) : delK id (kvB L) = kvB (delB id L) := by
  unfold delK kvB delB; rw [List.filter_map]; rfl
theorem delK_kvA (id : Nat) (A : List Nat) : delK id (kvA A) = kvA (delA id A) := by
  unfold delK kvA delA; rw [List.filter_map]; rfl
theorem zvb (W : World) : (zeroValue 4).run Try.prog W = .ok (.bool false) W := by kernel_rfl
theorem look_ap {W : World} {r : Nat} {A : List Nat} (h : MapL kid W r (kvA A)) (id : Nat) : (Instr.lookup 50 (.map (some r)) (.int .u32 (id : Int)) false).run Try.prog W = .ok (.bool (decide (id ∈ A))) W := by
  have := h.look keyid Try.underlying50 zvb id false
  have e : (lookK id (kvA A)).getD (.bool false) = .bool (decide (id ∈ A)) := by
    clear this h
    induction A with
    | nil => rfl
    | cons a A ih =>
      show (lookK id ((a, .bool true) :: kvA A)).getD (.bool false) = _
      rw [lookK]
      by_cases h : a = id
      · simp [h]
      · rw [if_neg h, ih]; simp [Ne.symm h]
  rw [e] at this
  simpa [kid] using this
theorem hasB_mem {L : List (Nat × Bx)} {id : Nat} {b : Bx} (h : (id, b) ∈ L) : hasB L id = true := by
  unfold hasB; rw [List.any_eq_true]; exact ⟨(id, b), h, by simp⟩
theorem look_mem {W : World} {r : Nat} {L : List (Nat × Bx)} (h : MapL kid W r (kvB L)) {id : Nat} {b : Bx} (hm : (id, b) ∈ L) : (Instr.lookup 48 (.map (some r)) (.int .u32 (id : Int)) true).run Try.prog W = .ok (.tuple #[.agg #[.int .i32 b.x0, .int .i32 b.y0, .int .i32 b.x1, .int .i32 b.y1], .bool true]) W := by
  have h1 := look_box h id
  rw [lookK_mem h.nodup (List.mem_map.2 ⟨(id, b), hm, rfl⟩), hasB_mem hm] at h1
  exact h1
/-- a box less -/
theorem GridM.unboxed {w : World} {G r1 r2 r3 : Nat} {s : Int} {L : List (Nat × Bx)} {A : List Nat} {M : List CE} (h : GridM w G r1 r2 r3 s L A M) (id : Nat) :
    ∃ w', (Builtin.delete_ #[48, 31] 0 #[.map (some r1), .int .u32 (id : Int)]).run Try.prog w = .ok (.tuple #[]) w' ∧ GridM w' G r1 r2 r3 s (delB id L) A M ∧ Keeps (fun k => k = r1) w w' := by
  obtain ⟨w', hrun, hm, hk⟩ := h.m1.delete keyid (kty := 31) Try.underlying48 id 0
  rw [delK_kvB] at hm
  exact ⟨w', hrun, ⟨h.blk.keeps hk (h.m1.ne h.blk), hm, h.m2.keeps hk (fun e => h.d12 e.symm) (fun k hk e => mapL_own h.m1 h.m2 (e ▸ hk)), h.m3.keeps hk (fun e => h.d13 e.symm), h.d12, h.d13, h.d23⟩, hk⟩
/-- a number less apart -/
theorem GridM.unaparted {w : World} {G r1 r2 r3 : Nat} {s : Int} {L : List (Nat × Bx)} {A : List Nat} {M : List CE} (h : GridM w G r1 r2 r3 s L A M) (id : Nat) :
    ∃ w', (Builtin.delete_ #[50, 31] 0 #[.map (some r3), .int .u32 (id : Int)]).run Try.prog w = .ok (.tuple #[]) w' ∧ GridM w' G r1 r2 r3 s L (delA id A) M ∧ Keeps (fun k => k = r3) w w' := by
  obtain ⟨w', hrun, hm, hk⟩ := h.m3.delete keyid (kty := 31) Try.underlying50 id 0
  rw [delK_kvA] at hm
  exact ⟨w', hrun, ⟨h.blk.keeps hk (h.m3.ne h.blk), h.m1.keeps hk (fun e => h.d13 e), h.m2.keeps hk (fun e => h.d23 e) (fun k hk e => mapL_own h.m3 h.m2 (e ▸ hk)), hm, h.d12, h.d13, h.d23⟩, hk⟩
theorem del_facts {w : World} {G r1 r2 r3 : Nat} {s : Int} {L : List (Nat × Bx)} {A : List Nat} {M : List CE} (h : GridM w G r1 r2 r3 s L A M) (id : Nat) :
    ∀ W', Keeps (FpG r1 r2 r3 M) ((w.alloc (.cells #[.pointer (some ⟨G, 0, none⟩)] 23)).alloc (.cells #[.int .u32 (id : Int)] 31)) W' → Blk W' G 52 [.int .i64 s, .map (some r1), .map (some r2), .map (some r3)] ∧ Blk W' w.heap.size 23 [.pointer (some ⟨G, 0, none⟩)] ∧ Blk W' (w.heap.size + 1) 31 [.int .u32 (id : Int)] := by
  intro W' hk
  have k2 : Keeps (fun _ => False) w ((w.alloc (.cells #[.pointer (some ⟨G, 0, none⟩)] 23)).alloc (.cells #[.int .u32 (id : Int)] 31)) := by (repeat (first | exact Keeps.refl _ _ | refine Keeps.alloc ?_ _ | refine Keeps.drew ?_))
  have b27 := (Blk.new w 23 [.pointer (some ⟨G, 0, none⟩)]).alloc (.cells #[.int .u32 (id : Int)] 31)
  have b35 := Blk.new (w.alloc (.cells #[.pointer (some ⟨G, 0, none⟩)] 23)) 31 [.int .u32 (id : Int)]
  simp only [World.size_alloc] at b27 b35
  have hn : ∀ k, w.heap.size ≤ k → ¬ FpG r1 r2 r3 M k := fun k hk he => by have := h.fp_lt he; omega
  exact ⟨(h.blk.keeps k2 (fun h => h)).keeps hk h.G_fp, b27.keeps hk (hn _ (Nat.le_refl _)), b35.keeps hk (hn _ (by omega))⟩
set_option maxHeartbeats 4000000 in
set_option maxRecDepth 100000 in
theorem del_gone (w : World) (G r1 r2 r3 : Nat) (s : Int) (L : List (Nat × Bx)) (A : List Nat) (M : List CE) (h : GridM w G r1 r2 r3 s L A M) (id : Nat) (hh : hasB L id = false) : Calls Try.prog 24 #[.pointer (some ⟨G, 0, none⟩), .int .u32 (id : Int)] w (fun e w' => ∃ M', e = .returned (.int .i64 141) ∧ GridM w' G r1 r2 r3 s (L) (A) M' ∧ viewE M' = (viewE M) ∧ Keeps (FpG r1 r2 r3 M) w w' ∧ ∀ k, Own M' k → Own M k) := by
  have k2 : Keeps (fun _ => False) w ((w.alloc (.cells #[.pointer (some ⟨G, 0, none⟩)] 23)).alloc (.cells #[.int .u32 (id : Int)] 31)) := by (repeat (first | exact Keeps.refl _ _ | refine Keeps.alloc ?_ _ | refine Keeps.drew ?_))
  have HT := Lib.hid (h.blk.keeps k2 (fun h => h))
  have HG := Lib.hid (And.intro h hh)
  have HN := Lib.hid (del_facts h id)
  have HSN := Lib.hid (show ∀ W', Keeps (FpG r1 r2 r3 M) ((w.alloc (.cells #[.pointer (some ⟨G, 0, none⟩)] 23)).alloc (.cells #[.int .u32 (id : Int)] 31)) W' → (∀ i : Nat, W'.cell? ⟨w.heap.size, i, none⟩ = ([.pointer (some ⟨G, 0, none⟩)] : List Value)[i]?) ∧ (∀ i : Nat, W'.cell? ⟨w.heap.size + 1, i, none⟩ = ([.int .u32 (id : Int)] : List Value)[i]?) ∧ (∀ i : Nat, W'.cell? ⟨G, i, none⟩ = ([.int .i64 s, .map (some r1), .map (some r2), .map (some r3)] : List Value)[i]?) from fun W' hk => by have hX := HN.out W' hk; exact ⟨hX.2.1.cell, hX.2.2.cell, hX.1.cell⟩)
  obtain ⟨b0, hb0⟩ := look_val L id
  have hlk1 := look_box ((h.m1.keeps k2 (fun h => h)).drew) id
  have hlk2 := fun o => look_box (((h.m1.keeps k2 (fun h => h)).alloc o).drew) id
  rw [hb0, hh] at hlk1
  simp only [hb0, hh] at hlk2
  simp only [Bx.val] at hlk1 hlk2
  have HK := Lib.hid k2
  clear h hh hb0 k2
  (refine (callsIn_wide (n := 9)).1 ?_; refine callsIn_of_wp_marks Try.func24 rfl trivial ?_ rfl; simp only [Try.ntmps24, List.size_toArray, List.length_cons, List.length_nil, Nat.reduceAdd, Nat.reduceSub, Array.replicate_succ, Array.replicate_zero, List.push_toArray, List.append_toArray, List.nil_append, List.cons_append]; gi_wp2_with (refine ⟨trivial, ?_⟩; gi_at_call 14; refine (callsIn_wide.2 (there_t _ HT.out)).mono ?_; rintro e w1 ⟨rfl, rfl⟩))
  refine wpIn_wide.2 ?_
  go_region_held3 (fun W => (∀ i : Nat, W.cell? ⟨w.heap.size, i, none⟩ = ([.pointer (some ⟨G, 0, none⟩)] : List Value)[i]?) ∧ (∀ i : Nat, W.cell? ⟨w.heap.size + 1, i, none⟩ = ([.int .u32 (id : Int)] : List Value)[i]?) ∧ (∀ i : Nat, W.cell? ⟨G, i, none⟩ = ([.int .i64 s, .map (some r1), .map (some r2), .map (some r3)] : List Value)[i]?)) (first | with_reducible assumption | exact HSN.out _ (by (repeat (first | exact Keeps.refl _ _ | refine Keeps.alloc ?_ _ | refine Keeps.drew ?_)))) (first | fail)
  all_goals
    gi_wp2
    refine (show ∀ Wx, Keeps (fun _ => False) ((w.alloc (.cells #[.pointer (some ⟨G, 0, none⟩)] 23)).alloc (.cells #[.int .u32 (id : Int)] 31)) Wx → LeavesInM _ _ _ _ _ _ _ _ Wx from ?_) _ (by (repeat (first | exact Keeps.refl _ _ | refine Keeps.alloc ?_ _ | refine Keeps.drew ?_)))
    intro Wx hkx
    have hkk := HK.out.trans hkx
    exact ⟨_, results_tmp rfl _ _ _, M, rfl, HG.out.1.kd hkk, rfl, hkk.mono (fun _ _ h => h.elim), fun k h => h⟩
set_option maxHeartbeats 8000000 in
set_option maxRecDepth 100000 in
theorem del_apart (w : World) (G r1 r2 r3 : Nat) (s : Int) (L : List (Nat × Bx)) (A : List Nat) (M : List CE) (h : GridM w G r1 r2 r3 s L A M) (id : Nat) (b : Bx) (hm : (id, b) ∈ L) (hA : id ∈ A) : Calls Try.prog 24 #[.pointer (some ⟨G, 0, none⟩), .int .u32 (id : Int)] w (fun e w' => ∃ M', e = .returned (.int .i64 0) ∧ GridM w' G r1 r2 r3 s (delB id L) (delA id A) M' ∧ viewE M' = (viewE M) ∧ Keeps (FpG r1 r2 r3 M) w w' ∧ ∀ k, Own M' k → Own M k) := by
  have k2 : Keeps (fun _ => False) w ((w.alloc (.cells #[.pointer (some ⟨G, 0, none⟩)] 23)).alloc (.cells #[.int .u32 (id : Int)] 31)) := by (repeat (first | exact Keeps.refl _ _ | refine Keeps.alloc ?_ _ | refine Keeps.drew ?_))
  have HT := Lib.hid (h.blk.keeps k2 (fun h => h))
  have HG := Lib.hid (And.intro h (And.intro hm hA))
  have HN := Lib.hid (del_facts h id)
  have HSN := Lib.hid (show ∀ W', Keeps (FpG r1 r2 r3 M) ((w.alloc (.cells #[.pointer (some ⟨G, 0, none⟩)] 23)).alloc (.cells #[.int .u32 (id : Int)] 31)) W' → (∀ i : Nat, W'.cell? ⟨w.heap.size, i, none⟩ = ([.pointer (some ⟨G, 0, none⟩)] : List Value)[i]?) ∧ (∀ i : Nat, W'.cell? ⟨w.heap.size + 1, i, none⟩ = ([.int .u32 (id : Int)] : List Value)[i]?) ∧ (∀ i : Nat, W'.cell? ⟨G, i, none⟩ = ([.int .i64 s, .map (some r1), .map (some r2), .map (some r3)] : List Value)[i]?) from fun W' hk => by have hX := HN.out W' hk; exact ⟨hX.2.1.cell, hX.2.2.cell, hX.1.cell⟩)
  have hlk1 := look_mem ((h.m1.keeps k2 (fun h => h)).drew) hm
  have hlk2 := fun o => look_mem (((h.m1.keeps k2 (fun h => h)).alloc o).drew) hm
  have HK := Lib.hid k2
  clear h hm hA k2
  (refine (callsIn_wide (n := 9)).1 ?_; refine callsIn_of_wp_marks Try.func24 rfl trivial ?_ rfl; simp only [Try.ntmps24, List.size_toArray, List.length_cons, List.length_nil, Nat.reduceAdd, Nat.reduceSub, Array.replicate_succ, Array.replicate_zero, List.push_toArray, List.append_toArray, List.nil_append, List.cons_append]; gi_wp2_with (refine ⟨trivial, ?_⟩; gi_at_call 14; refine (callsIn_wide.2 (there_t _ HT.out)).mono ?_; rintro e w1 ⟨rfl, rfl⟩))
  refine wpIn_wide.2 ?_
  go_region_held3 (fun W => (∀ i : Nat, W.cell? ⟨w.heap.size, i, none⟩ = ([.pointer (some ⟨G, 0, none⟩)] : List Value)[i]?) ∧ (∀ i : Nat, W.cell? ⟨w.heap.size + 1, i, none⟩ = ([.int .u32 (id : Int)] : List Value)[i]?) ∧ (∀ i : Nat, W.cell? ⟨G, i, none⟩ = ([.int .i64 s, .map (some r1), .map (some r2), .map (some r3)] : List Value)[i]?)) (first | with_reducible assumption | exact HSN.out _ (by (repeat (first | exact Keeps.refl _ _ | refine Keeps.alloc ?_ _ | refine Keeps.drew ?_)))) (first | fail)
  all_goals
    gi_wp2
    refine (show ∀ Wx, Keeps (fun _ => False) ((w.alloc (.cells #[.pointer (some ⟨G, 0, none⟩)] 23)).alloc (.cells #[.int .u32 (id : Int)] 31)) Wx → Code.wpIn _ _ _ _ _ _ Wx from ?_) _ (by (repeat (first | exact Keeps.refl _ _ | refine Keeps.alloc ?_ _ | refine Keeps.drew ?_)))
    clear hlk1 hlk2
    intro Wx hk5
    obtain ⟨Wy, hup, hG5, hku⟩ := ((HG.out.1.kd (HK.out.trans hk5)).kd (Keeps.refl (fun _ => False) Wx).drew).unboxed id
    have hk6 : Keeps (FpG r1 r2 r3 M) ((w.alloc (.cells #[.pointer (some ⟨G, 0, none⟩)] 23)).alloc (.cells #[.int .u32 (id : Int)] 31)) Wx := hk5.mono (fun _ _ h => h.elim)
    have HK5 := Lib.hid hk6
    have HK6 := Lib.hid (hk6.drew.then hku (fun i hi e => .inl e))
    have H5 := Lib.hid hG5
    clear hk5 hG5 hku hk6
    refine wpIn_wide.2 ?_
    go_region_held3 (fun W => (∀ i : Nat, W.cell? ⟨w.heap.size, i, none⟩ = ([.pointer (some ⟨G, 0, none⟩)] : List Value)[i]?) ∧ (∀ i : Nat, W.cell? ⟨w.heap.size + 1, i, none⟩ = ([.int .u32 (id : Int)] : List Value)[i]?) ∧ (∀ i : Nat, W.cell? ⟨G, i, none⟩ = ([.int .i64 s, .map (some r1), .map (some r2), .map (some r3)] : List Value)[i]?)) (first | with_reducible assumption | exact HSN.out _ (by first | exact HK5.out.drew | exact HK6.out)) (first | fail)
    clear hup
    gi_wp2
    have hla := look_ap (H5.out.m3.drew) id
    rw [decide_eq_true HG.out.2.2] at hla
    refine wpIn_wide.2 ?_
    go_region_held3 (fun W => (∀ i : Nat, W.cell? ⟨w.heap.size, i, none⟩ = ([.pointer (some ⟨G, 0, none⟩)] : List Value)[i]?) ∧ (∀ i : Nat, W.cell? ⟨w.heap.size + 1, i, none⟩ = ([.int .u32 (id : Int)] : List Value)[i]?) ∧ (∀ i : Nat, W.cell? ⟨G, i, none⟩ = ([.int .i64 s, .map (some r1), .map (some r2), .map (some r3)] : List Value)[i]?)) (first | with_reducible assumption | exact HSN.out _ (by exact HK6.out.drew)) (first | fail)
    clear hla
    gi_wp2
    obtain ⟨Wz, hup, hG6, hku⟩ := (((H5.out).kd (Keeps.refl (fun _ => False) Wy).drew).kd (Keeps.refl (fun _ => False) Wy.drew).drew).unaparted id
    have HK8 := Lib.hid (HK6.out.drew.drew.then hku (fun i hi e => .inr (.inr (.inl e))))
    have H6 := Lib.hid hG6
    clear hG6 hku
    refine wpIn_wide.2 ?_
    go_region_held3 (fun W => (∀ i : Nat, W.cell? ⟨w.heap.size, i, none⟩ = ([.pointer (some ⟨G, 0, none⟩)] : List Value)[i]?) ∧ (∀ i : Nat, W.cell? ⟨w.heap.size + 1, i, none⟩ = ([.int .u32 (id : Int)] : List Value)[i]?) ∧ (∀ i : Nat, W.cell? ⟨G, i, none⟩ = ([.int .i64 s, .map (some r1), .map (some r2), .map (some r3)] : List Value)[i]?)) (first | with_reducible assumption | exact HSN.out _ (by first | exact HK6.out.drew.drew | exact HK8.out)) (first | fail)
    clear hup
    gi_wp2
    exact ⟨_, results_tmp rfl _ _ _, M, rfl, H6.out, rfl, (HK.out.mono (fun _ _ h => h.elim)).trans HK8.out, fun k h => h⟩
set_option maxHeartbeats 8000000 in
set_option maxRecDepth 100000 in
theorem del_in (w : World) (G r1 r2 r3 : Nat) (s : Int) (hs : Size s) (L : List (Nat × Bx)) (A : List Nat) (M : List CE) (h : GridM w G r1 r2 r3 s L A M) (id : Nat) (b : Bx) (hm : (id, b) ∈ L) (hA : id ∉ A) (hb : Right b) (hE : ∀ c ∈ coverL s b, ∃ e ∈ viewE M, e.1 = c) : Calls Try.prog 24 #[.pointer (some ⟨G, 0, none⟩), .int .u32 (id : Int)] w (fun e w' => ∃ M', e = .returned (.int .i64 0) ∧ GridM w' G r1 r2 r3 s (delB id L) (A) M' ∧ viewE M' = ((coverL s b).foldl (delC id) (viewE M)) ∧ Keeps (FpG r1 r2 r3 M) w w' ∧ ∀ k, Own M' k → Own M k) := by
  have k2 : Keeps (fun _ => False) w ((w.alloc (.cells #[.pointer (some ⟨G, 0, none⟩)] 23)).alloc (.cells #[.int .u32 (id : Int)] 31)) := by (repeat (first | exact Keeps.refl _ _ | refine Keeps.alloc ?_ _ | refine Keeps.drew ?_))
  have HT := Lib.hid (h.blk.keeps k2 (fun h => h))
  have HG := Lib.hid (And.intro h (And.intro hm (And.intro hA (And.intro hb (And.intro hE hs)))))
  have HN := Lib.hid (del_facts h id)
  have HSN := Lib.hid (show ∀ W', Keeps (FpG r1 r2 r3 M) ((w.alloc (.cells #[.pointer (some ⟨G, 0, none⟩)] 23)).alloc (.cells #[.int .u32 (id : Int)] 31)) W' → (∀ i : Nat, W'.cell? ⟨w.heap.size, i, none⟩ = ([.pointer (some ⟨G, 0, none⟩)] : List Value)[i]?) ∧ (∀ i : Nat, W'.cell? ⟨w.heap.size + 1, i, none⟩ = ([.int .u32 (id : Int)] : List Value)[i]?) ∧ (∀ i : Nat, W'.cell? ⟨G, i, none⟩ = ([.int .i64 s, .map (some r1), .map (some r2), .map (some r3)] : List Value)[i]?) from fun W' hk => by have hX := HN.out W' hk; exact ⟨hX.2.1.cell, hX.2.2.cell, hX.1.cell⟩)
  have hlk1 := look_mem ((h.m1.keeps k2 (fun h => h)).drew) hm
  have hlk2 := fun o => look_mem (((h.m1.keeps k2 (fun h => h)).alloc o).drew) hm
  have HK := Lib.hid k2
  clear h hm hA k2 hb hE hs
  (refine (callsIn_wide (n := 9)).1 ?_; refine callsIn_of_wp_marks Try.func24 rfl trivial ?_ rfl; simp only [Try.ntmps24, List.size_toArray, List.length_cons, List.length_nil, Nat.reduceAdd, Nat.reduceSub, Array.replicate_succ, Array.replicate_zero, List.push_toArray, List.append_toArray, List.nil_append, List.cons_append]; gi_wp2_with (refine ⟨trivial, ?_⟩; gi_at_call 14; refine (callsIn_wide.2 (there_t _ HT.out)).mono ?_; rintro e w1 ⟨rfl, rfl⟩))
  refine wpIn_wide.2 ?_
  go_region_held3 (fun W => (∀ i : Nat, W.cell? ⟨w.heap.size, i, none⟩ = ([.pointer (some ⟨G, 0, none⟩)] : List Value)[i]?) ∧ (∀ i : Nat, W.cell? ⟨w.heap.size + 1, i, none⟩ = ([.int .u32 (id : Int)] : List Value)[i]?) ∧ (∀ i : Nat, W.cell? ⟨G, i, none⟩ = ([.int .i64 s, .map (some r1), .map (some r2), .map (some r3)] : List Value)[i]?)) (first | with_reducible assumption | exact HSN.out _ (by (repeat (first | exact Keeps.refl _ _ | refine Keeps.alloc ?_ _ | refine Keeps.drew ?_)))) (first | fail)
  all_goals
    gi_wp2
    refine (show ∀ Wx, Keeps (fun _ => False) ((w.alloc (.cells #[.pointer (some ⟨G, 0, none⟩)] 23)).alloc (.cells #[.int .u32 (id : Int)] 31)) Wx → Blk Wx (w.heap.size + 1 + 1) 35 [.int .i32 b.x0, .int .i32 b.y0, .int .i32 b.x1, .int .i32 b.y1] → Code.wpIn _ _ _ _ _ _ Wx from ?_) _ (by (repeat (first | exact Keeps.refl _ _ | refine Keeps.alloc ?_ _ | refine Keeps.drew ?_))) (by (repeat (first | (refine blk_top ?_; simp only [World.size_alloc, World.size_drew]; done) | refine Blk.drew ?_ | refine Blk.alloc ?_ _)))
    clear hlk1 hlk2
    intro Wx hk5 hbx
    obtain ⟨Wy, hup, hG5, hku⟩ := ((HG.out.1.kd (HK.out.trans hk5)).kd (Keeps.refl (fun _ => False) Wx).drew).unboxed id
    have hk6 : Keeps (FpG r1 r2 r3 M) ((w.alloc (.cells #[.pointer (some ⟨G, 0, none⟩)] 23)).alloc (.cells #[.int .u32 (id : Int)] 31)) Wx := hk5.mono (fun _ _ h => h.elim)
    have HK5 := Lib.hid hk6
    have hxy : Keeps (FpG r1 r2 r3 M) Wx Wy := ((Keeps.refl _ Wx).drew).then hku (fun i hi e => .inl e)
    have HXY := Lib.hid hxy
    have HK6 := Lib.hid (hk6.trans hxy)
    have H5 := Lib.hid hG5
    have hnb : ¬ FpG r1 r2 r3 M (w.heap.size + 1 + 1) := fun h => by have := HG.out.1.fp_lt h; omega
    have HB5 := Lib.hid (show ∀ W', Keeps (FpG r1 r2 r3 M) Wx W' → (∀ i : Nat, W'.cell? ⟨w.heap.size, i, none⟩ = ([.pointer (some ⟨G, 0, none⟩)] : List Value)[i]?) ∧ (∀ i : Nat, W'.cell? ⟨w.heap.size + 1, i, none⟩ = ([.int .u32 (id : Int)] : List Value)[i]?) ∧ (∀ i : Nat, W'.cell? ⟨w.heap.size + 1 + 1, i, none⟩ = ([.int .i32 b.x0, .int .i32 b.y0, .int .i32 b.x1, .int .i32 b.y1] : List Value)[i]?) ∧ (∀ i : Nat, W'.cell? ⟨G, i, none⟩ = ([.int .i64 s, .map (some r1), .map (some r2), .map (some r3)] : List Value)[i]?) from fun W' hk => by
      have hX := HN.out W' (hk6.trans hk)
      exact ⟨hX.2.1.cell, hX.2.2.cell, (hbx.keeps hk hnb).cell, hX.1.cell⟩)
    clear hk5 hG5 hku hk6 hxy
    refine wpIn_wide.2 ?_
    go_region_held3 (fun W => (∀ i : Nat, W.cell? ⟨w.heap.size, i, none⟩ = ([.pointer (some ⟨G, 0, none⟩)] : List Value)[i]?) ∧ (∀ i : Nat, W.cell? ⟨w.heap.size + 1, i, none⟩ = ([.int .u32 (id : Int)] : List Value)[i]?) ∧ (∀ i : Nat, W.cell? ⟨G, i, none⟩ = ([.int .i64 s, .map (some r1), .map (some r2), .map (some r3)] : List Value)[i]?)) (first | with_reducible assumption | exact HSN.out _ (by first | exact HK5.out.drew | exact HK6.out)) (first | fail)
    clear hup
    gi_wp2
    have hla := look_ap (H5.out.m3.drew) id
    rw [decide_eq_false HG.out.2.2.1] at hla
    refine wpIn_wide.2 ?_
    go_region_held3 (fun W => (∀ i : Nat, W.cell? ⟨w.heap.size, i, none⟩ = ([.pointer (some ⟨G, 0, none⟩)] : List Value)[i]?) ∧ (∀ i : Nat, W.cell? ⟨w.heap.size + 1, i, none⟩ = ([.int .u32 (id : Int)] : List Value)[i]?) ∧ (∀ i : Nat, W.cell? ⟨G, i, none⟩ = ([.int .i64 s, .map (some r1), .map (some r2), .map (some r3)] : List Value)[i]?)) (first | with_reducible assumption | exact HSN.out _ (by exact HK6.out.drew)) (first | fail)
    clear hla
    gi_wp2
    have HK8 := Lib.hid (show Keeps (FpG r1 r2 r3 M) Wx ((Wy.drew.drew.alloc (.cells #[.int .i32 b.x0, .int .i32 b.y0, .int .i32 b.x1, .int .i32 b.y1] 35)).alloc (.cells #[.int .i64 s] 2)) from (HXY.out.drew.drew.alloc _).alloc _)
    refine wpIn_wide.2 ?_
    go_region_held3 (fun W => (∀ i : Nat, W.cell? ⟨w.heap.size, i, none⟩ = ([.pointer (some ⟨G, 0, none⟩)] : List Value)[i]?) ∧ (∀ i : Nat, W.cell? ⟨w.heap.size + 1, i, none⟩ = ([.int .u32 (id : Int)] : List Value)[i]?) ∧ (∀ i : Nat, W.cell? ⟨w.heap.size + 1 + 1, i, none⟩ = ([.int .i32 b.x0, .int .i32 b.y0, .int .i32 b.x1, .int .i32 b.y1] : List Value)[i]?) ∧ (∀ i : Nat, W.cell? ⟨G, i, none⟩ = ([.int .i64 s, .map (some r1), .map (some r2), .map (some r3)] : List Value)[i]?)) (first | with_reducible assumption | exact HB5.out _ (by first | exact HXY.out.drew.drew | exact HK8.out)) (first
      | (go_at_call 34; (with_reducible refine (cover_t _ _ _).mono ?_); rintro e w8 ⟨rfl, rfl⟩))
    gi_wp2
    refine (show ∀ Wz, Keeps (fun _ => False) Wy Wz → Blk Wz (Wy.heap.size + 1) 2 [.int .i64 s] → Blk Wz Wy.heap.size 35 [.int .i32 b.x0, .int .i32 b.y0, .int .i32 b.x1, .int .i32 b.y1] → Code.wpIn _ _ _ _ _ _ Wz from ?_) _ (by (repeat (first | exact Keeps.refl _ _ | refine Keeps.alloc ?_ _ | refine Keeps.drew ?_))) (by (repeat (first | (refine blk_top ?_; simp only [World.size_alloc, World.size_drew]; done) | refine Blk.drew ?_ | refine Blk.alloc ?_ _))) (by (repeat (first | (refine blk_top ?_; simp only [World.size_alloc, World.size_drew]; done) | refine Blk.drew ?_ | refine Blk.alloc ?_ _)))
    intro Wz kz hSB hBB
    have hkz : Keeps (FpG r1 r2 r3 M) ((w.alloc (.cells #[.pointer (some ⟨G, 0, none⟩)] 23)).alloc (.cells #[.int .u32 (id : Int)] 31)) Wz := HK6.out.trans (kz.mono (fun _ _ h => h.elim))
    obtain ⟨hGz, b27, b35⟩ := HN.out _ hkz
    have hG6 := H5.out.kd kz
    have hKW : Keeps (FpG r1 r2 r3 M) w Wz := (HK.out.mono (fun _ _ h => h.elim)).trans hkz
    have HKZ := Lib.hid hKW
    have H6 := Lib.hid hG6
    have hoB : ¬ Own M (w.heap.size + 1) := fun h => by have := HG.out.1.m2.own_lt h; omega
    refine wpIn_range (gf := 50) (lb := #[.pointer (some ⟨Wy.heap.size + 1, 0, none⟩), .pointer (some ⟨Wy.heap.size, 0, none⟩)]) (encs := fun c : Cl => #[.agg #[.int .i32 c.1, .int .i32 c.2]]) (xs := coverL s b) (A := fun _ => True) rfl (enters_of Try.func50 (by kernel_rfl) rfl)
      (fun W1 hk => cover_gives 8 _ _ s b HG.out.2.2.2.2.2 HG.out.2.2.2.1 W1 (hSB.keeps hk (fun h => h)) (hBB.keeps hk (fun h => h))) (fun _ => rfl)
      (DelI Wz r2 M id) (fun _ _ _ _ => False) (deli_stab Wz r2 M id) (fun _ _ _ _ _ _ h => h.elim)
      (fun k => k = r2 ∨ Own M k) (fun k hk => by rcases hk with rfl | hk; exact hG6.m2.lt; exact hG6.m2.own_lt hk) ⟨M, hG6.m2, rfl, fun k h => h, Keeps.refl _ _, fun _ => Iff.rfl⟩ (fun _ _ => trivial)
      (DelM Wz r2 M id w.heap.size (w.heap.size + 1)) (delm_stab Wz r2 M id _ _) ?assign ?body ?done ?stop
    case assign =>
      intro l pre x rest S W hxs hI hin hlt
      have HX := Lib.hid (And.intro hI hin)
      clear hI hin hGz b27 b35 hG6 hSB hBB
      gi_wp2
      obtain ⟨hI, hin⟩ := HX.out
      have ka := (Keeps.refl (fun _ => False) W).alloc (.cells #[.int .i32 x.1, .int .i32 x.2] 65)
      refine ⟨fun k => S k ∨ k = W.heap.size, ⟨ka.mono (fun _ _ h => h.elim), fun k hk => ?_⟩, fun k hk => ?_, W.heap.size, S, ⟨rfl, rfl, by simp⟩, Blk.new W 65 [.int .i32 x.1, .int .i32 x.2], deli_stab Wz r2 M id pre S (fun _ => False) W _ hI hin ka (fun _ _ h => h) (fun _ h => h.elim), hin.mono ka.size, fun h => by have := hin _ h; omega, fun _ => Iff.rfl⟩
      · rcases hk with h | h
        · exact .inl h
        · exact .inr (by omega)
      · simp only [World.size_alloc]
        rcases hk with h | h
        · have := hin k h; omega
        · omega
    case body =>
      intro l pre x rest a1 S W hxs hM hin hlt
      have hnx : x ∉ pre := by
        have := coverL_nodup s b
        rw [hxs, List.nodup_append] at this
        exact fun h => this.2.2 x h x (by simp) rfl
      exact del_round l Wz G r1 r2 r3 _ _ id s M hGz b27 b35 hG6.m2 hoB pre x (delC_others hnx (HG.out.2.2.2.2.1 x (by rw [hxs]; simp))) S W a1 hM hin
    case done =>
      rintro D S' W' hD hnD hf hin ⟨M', h1, h2, h3, h4, h6⟩ hDD
      have HH := Lib.hid (And.intro h1 (And.intro h2 (And.intro h3 (And.intro h4 (And.intro h6 (And.intro hD hnD))))))
      have kp := keeps_putObj W' D (.deferred none)
      have HP := Lib.hid kp
      have HDD := Lib.hid hDD
      clear kp h1 h2 h3 h4 h6 hGz b27 b35 hG6 hkz hKW hSB hBB kz hD hnD hDD hf hin
      gi_wp2
      refine ⟨by simp, .inl ⟨_, _, rfl, run_takeDeferred HDD.out, ?_⟩⟩
      obtain ⟨h1, h2, h3, h4, h6, hD, hnD⟩ := HH.out
      have hg := H6.out
      have hn1 : ¬ (r1 = r2 ∨ Own M r1) := fun h => h.elim hg.d12 (fun h => mapL_own hg.m1 hg.m2 h)
      have hn3 : ¬ (r3 = r2 ∨ Own M r3) := fun h => h.elim (fun e => hg.d23 e.symm) (fun h => mapL_own hg.m3 hg.m2 h)
      have hnG : ¬ (G = r2 ∨ Own M G) := fun h => h.elim (hg.m2.ne hg.blk) (hg.m2.ne_own hg.blk (by decide))
      have l1 := hg.m1.lt
      have l3 := hg.m3.lt
      have lG := hg.blk.lt
      have hsz := HKZ.out.size
      exact ⟨_, results_tmp rfl _ _ _, M', rfl, ⟨(hg.blk.keeps h4 hnG).keeps HP.out (fun e => by omega), (hg.m1.keeps h4 hn1).keeps HP.out (fun e => by omega), h1.keeps HP.out (fun e => hnD (e ▸ (h6 _).2 (.inl rfl))) (fun k hk e => hnD (e ▸ (h6 _).2 (.inr (h3 k hk)))), (hg.m3.keeps h4 hn3).keeps HP.out (fun e => by omega), hg.d12, hg.d13, hg.d23⟩, h2, ((HKZ.out).then h4 (fun i hi h => h.elim (fun e => .inr (.inl e)) (fun h => .inr (.inr (.inr h))))).then HP.out (fun i hi e => by omega), h3⟩
    case stop =>
      intro D c0 pre S' W' hD hnD hf hin hpre hx
      exact hx.elim
end Gs
end Go.Proofs.Ytdbpfbokfmpgcaa
