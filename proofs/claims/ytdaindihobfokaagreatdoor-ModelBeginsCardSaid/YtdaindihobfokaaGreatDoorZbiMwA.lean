/-
MwA: the little script; may the configuration be, may a step be.
-/
import Derived.Test.YtdaindihobfokaaGreatDoorZbhWiO
import Derived.Test.YtdaindihobfokaaGreatDoorZaqDrDs
import Derived.Maps.OwnOps
import Derived.Maps.RangeRun
namespace Go.Proofs.YtdaindihobfokaaGreatDoor
open Go.RowKit
set_option linter.unusedVariables false
set_option linter.unusedSimpArgs false
set_option linter.ambiguousOpen false
attribute [local go_sem] Oper.semAt_some
namespace Mw
open Mem Dr
/-- block r is the map es -/
def Mp (w : World) (r : Nat) (es : Array MapEntry) (k : Nat) : Prop := w.heap[r]? = some (.map es k)
section
variable {w w' : World} {S : Nat → Prop} {r k : Nat} {es : Array MapEntry}
theorem Mp.lt (h : Mp w r es k) : r < w.heap.size := by
  rcases Nat.lt_or_ge r w.heap.size with hlt | hge
  · exact hlt
  · unfold Mp at h; rw [Array.getElem?_eq_none hge] at h; cases h
theorem Mp.new (w : World) (es : Array MapEntry) (k : Nat) : Mp (w.alloc (.map es k)) w.heap.size es k := heap_alloc_new w _
theorem Mp.alloc (h : Mp w r es k) (o : Obj) : Mp (w.alloc o) r es k := (Below.heap_alloc w o r h.lt).trans h
theorem Mp.drew (h : Mp w r es k) : Mp w.drew r es k := h
theorem Mp.keeps (h : Mp w r es k) (hk : Keeps S w w') (hn : ¬ S r) : Mp w' r es k := (hk.block r h.lt hn).trans h
theorem Mp.ne {b : Nat} {t : TypeId} {cs : List Value} (h : Mp w r es k) (hb : Blk w b t cs) : b ≠ r := by
  rintro rfl; unfold Mp at h; unfold Blk at hb; rw [h] at hb; cases hb
end
theorem hpush (w : World) (o : Obj) : (w.alloc o).heap = w.heap.push o := rfl
theorem hdrew (w : World) : w.drew.heap = w.heap := rfl
abbrev frL : List Nat := Wi.frameL (Wi.bodyL 3 1 0 5 0)
abbrev cfgL : List Value := [.int .i64 1, .int .i64 2, .int .i64 2, .int .i64 2, .int .i64 1, .int .i64 2, .int .i64 1, .int .i64 2, .int .i64 2, .int .i64 10, .int .i64 0]
abbrev scL (sb : Nat) : List Value := [.int .i64 1, .int .i64 2, .int .i64 2, .int .i64 2, .int .i64 1, .int .i64 2, .int .i64 1, .int .i64 2, .int .i64 2, .int .i64 10, .int .i64 0, .slice (some ⟨sb, 0, none⟩) 2 2]
abbrev stepsL (g c : Nat) : List Value := [.int .u8 1, .int .i64 0, .int .i64 0, .int .i64 0, .slice (some ⟨g, 0, none⟩) 30 c, .int .u8 2, .int .i64 0, .int .i64 0, .int .i64 0, .slice none 0 0]
theorem putu_t (w : World) : Calls Tryz.prog 19 #[.agg #[.int .u8 1, .int .u32 3, .int .u32 1, .int .u32 0, .int .i32 5, .int .i32 0, .int .u32 0, .int .u8 0, .slice none 0 0, .slice none 0 0, .int .i32 0, .string ⟨#[]⟩]] w fun e w' => ∃ g c, e = .returned (.slice (some ⟨g, 0, none⟩) 30 c) ∧ Keeps (fun _ => False) w w' ∧ Wi.Bys w' (some ⟨g, 0, none⟩) frL ∧ 30 ≤ c ∧ w.heap.size ≤ g := by
  refine (Wi.put_t 3 1 0 5 0 5 0 (by decide) (by decide) (by decide) (by decide) (by decide) (by kernel_rfl) (by kernel_rfl) w).mono ?_
  rintro e w' ⟨a, c, rfl, hk, ho⟩
  have hl : (Wi.frameL (Wi.bodyL 3 1 0 5 0)).length = 30 := by unfold Wi.frameL; simp [Wi.le_len, Wi.body_len]
  obtain ⟨g, rfl, hg, _, hc⟩ := (show Wi.Own w' w.heap.size a c (80 :: (Wi.frameL (Wi.bodyL 3 1 0 5 0)).tail) from ho).form
  have hc2 : (Wi.frameL (Wi.bodyL 3 1 0 5 0)).length ≤ c := hc
  rw [hl] at hc2
  exact ⟨g, c, rfl, hk, ho.bys, hc2, hg⟩
theorem sc_info (sb : Nat) : (Tryz.prog.info? 45).map (·.size) = some (scL sb).toArray.size := by kernel_rfl
abbrev sc0L : List Value := [.int .i64 1, .int .i64 2, .int .i64 2, .int .i64 2, .int .i64 1, .int .i64 2, .int .i64 1, .int .i64 2, .int .i64 2, .int .i64 10, .int .i64 0, .slice none 0 0]
abbrev zscL : List Value := [.int .i64 0, .int .i64 0, .int .i64 0, .int .i64 0, .int .i64 0, .int .i64 0, .int .i64 0, .int .i64 0, .int .i64 0, .int .i64 0, .int .i64 0, .slice none 0 0]
theorem sc_fit (sb : Nat) : 0 + (scL sb).toArray.size ≤ zscL.length := by simp
theorem sc_one (sb : Nat) : (scL sb).toArray.all (·.oneCell') = true := by simp [Value.oneCell']
theorem sc_same {w : World} {b sb : Nat} (h : Blk w b 45 (zscL.take 0 ++ (scL sb).toArray.toList ++ zscL.drop (0 + (scL sb).toArray.size))) : Blk w b 45 (scL sb) := h
set_option maxHeartbeats 2000000 in
set_option maxRecDepth 20000 in
theorem little_t (w : World) : Calls Tryz.prog 15 #[] w fun e w' => ∃ sb ab g c, e = .returned (.tuple #[.agg (scL sb).toArray, .slice (some ⟨ab, 0, none⟩) 1 1]) ∧ Keeps (fun _ => False) w w' ∧ Blk w' sb 77 (stepsL g c) ∧ Blk w' ab 59 [.int .i64 1, .int .i64 0] ∧ Wi.Bys w' (some ⟨g, 0, none⟩) frL ∧ 30 ≤ c := by
  have HK0 := Lib.hid (show Keeps (fun _ => False) w ((w.alloc (.cells zscL.toArray 45)).alloc (.cells sc0L.toArray 45)) from by (repeat (first | exact Keeps.refl _ _ | assumption | refine Keeps.alloc ?_ _ | refine Keeps.drew ?_)))
  have HB0 := Lib.hid ((Blk.new w 45 zscL).alloc (.cells sc0L.toArray 45))
  have HB2 := Lib.hid (show Blk ((w.alloc (.cells zscL.toArray 45)).alloc (.cells sc0L.toArray 45)) (w.heap.size + 1) 45 sc0L from by have := Blk.new (w.alloc (.cells zscL.toArray 45)) 45 sc0L; rwa [World.size_alloc] at this)
  go_enter Tryz.func15, Tryz.ntmps15
  go_wp2_with (first
    | (go_at_call 19; (with_reducible refine (putu_t _).mono ?_); rintro e w1 ⟨g, c, rfl, hk, hb, hc, hg⟩; have K1 := Lib.hid hk; have HB := Lib.hid (And.intro hb (And.intro hc hg)); have hb2 := HB2.out.keeps hk (fun h => h); have f2 := fun o i => (hb2.alloc o).frozen i; have c1 := fun o i => (hb2.alloc o).cell i; have G2 := Lib.hid hb2; have c2 := fun o v i => ((hb2.alloc o).set_ 11 v).cell i; simp only [List.set_cons_succ, List.set_cons_zero] at c2; clear hb2 hk hb hc hg)
    | (with_reducible refine wpList_store_blk rfl 45 (.tmp 0) (.tmp 13) rfl w.heap.size 0 45 zscL (scL w1.heap.size).toArray rfl rfl ?bb (sc_fit _) (sc_info _) (sc_one _) ?_; rotate_left; intro w4 hb4 hg4 hs4; have H4 := Lib.hid (And.intro (sc_same hb4) hg4); clear hb4 hg4 hs4))
  case bb =>
    have h0 := ((HB0.out.keeps K1.out (fun h => h)).alloc (.cells (stepsL g c).toArray 77)).far (p := ⟨w.heap.size + 1, 11, none⟩) (by simp) (.slice (some ⟨w1.heap.size, 0, none⟩) 2 2)
    exact h0.alloc _
  refine bodyPost_ret (results_row_tmp rfl _ _ _ _ _ _ _ rfl H4.out.1 Tryz.underlying45 rfl (sc_info _)) rfl ?_
  have kz := K1.out.size
  have kq := HB0.out.lt
  have ks := Blk.new w1 77 (stepsL g c)
  have hlt := G2.out.lt
  have kw : Keeps (fun _ => False) w w4 := ((((HK0.out.trans K1.out).alloc (.cells (stepsL g c).toArray 77)).setCell (p := ⟨w.heap.size + 1, 11, none⟩) (fun h => absurd h (by simp)) (.slice (some ⟨w1.heap.size, 0, none⟩) 2 2)).alloc _).grown H4.out.2 (fun k hk e => by cases e; omega)
  refine ⟨w1.heap.size, w1.heap.size + 1, g, c, rfl, kw, ?_, ?_, ?_, HB.out.2.1⟩
  · exact ((ks.far (p := ⟨w.heap.size + 1, 11, none⟩) (by simp; omega) _).alloc _).grown H4.out.2 (by simp; omega)
  · have h2 := Blk.new ((w1.alloc (.cells (stepsL g c).toArray 77)).setCell ⟨w.heap.size + 1, 11, none⟩ (.slice (some ⟨w1.heap.size, 0, none⟩) 2 2)) 59 [.int .i64 1, .int .i64 0]
    rw [show ((w1.alloc (.cells (stepsL g c).toArray 77)).setCell ⟨w.heap.size + 1, 11, none⟩ (.slice (some ⟨w1.heap.size, 0, none⟩) 2 2)).heap.size = w1.heap.size + 1 from by simp [World.setCell]] at h2
    exact h2.grown H4.out.2 (by simp; omega)
  · have k4 : Keeps (fun k => k = w.heap.size ∨ k = w.heap.size + 1) w1 w4 := (((Keeps.refl (fun k => k = w.heap.size ∨ k = w.heap.size + 1) w1).alloc (.cells (stepsL g c).toArray 77)).setCell (p := ⟨w.heap.size + 1, 11, none⟩) (fun _ => .inr rfl) (.slice (some ⟨w1.heap.size, 0, none⟩) 2 2)).alloc _ |>.grown H4.out.2 (fun k hk e => by cases e; exact .inl rfl)
    have hgg := HB.out.2.2
    simp at hgg
    exact HB.out.1.keeps k4 (Wi.far_at (by omega))
end Mw
end Go.Proofs.YtdaindihobfokaaGreatDoor
