/-
SoM: the sort at uint32: slices.Sort; Compact and DeleteFunc by the shelf's contracts.
-/
import Derived.Test.YtdbpfbokfmpgcaaGreatZaaMemIterTreeAHeldGrowIter
import Derived.Test.YtdbpfbokfmpgcaaGreatZadSoASoB
import Derived.Test.YtdbpfbokfmpgcaaGreatZaeSoE
import Derived.Test.YtdbpfbokfmpgcaaGreatZafSoFSoG
import Derived.Test.YtdbpfbokfmpgcaaGreatZagSoHSoISoJSoKSoCSoD
import Derived.Test.YtdbpfbokfmpgcaaGreatZahSoL
import Derived.Sort.AssemblyPlain
import Derived.Shelf.SlicesE.Compact
import Derived.Shelf.SlicesE.DeleteFunc
set_option linter.unusedVariables false
set_option linter.unusedSimpArgs false
set_option maxRecDepth 100000
attribute [local go_sem] Go.Oper.semAt_some
namespace Go.Proofs.YtdbpfbokfmpgcaaGreat
theorem ZAH {p : Prop} (h : p := by decide) : p := h
open Go.RowKit Go.Sort Go.Shelf
namespace So
theorem callees13 : Callees13 where
 ins := insertionSort_u
 brk := breakPatterns_u
 piv := choosePivot_u
 par := partialInsertionSort_u
 peq := partitionEqualOrdered_u
 prt := partitionOrdered_u
theorem plain13 : Plain13 where
 swo := swo_ltInt
 ins := insertionSort_holds
 par := partialInsertionSort_holds
 prt := partition_holds _
 peq := partitionEqual_holds _
 pdq := pdq_sorts _
theorem Sort_u (blk off cap : Nat) (d : Array Int) (w : World) (hH : Holds (Value.int .u32) w blk off d) (hblk : blk < w.heap.size) (hsz : d.size < 4611686018427387904) :
 Calls Tryz.prog 80 #[.slice (some ⟨blk, off, none⟩) d.size cap] w fun e w' => e = .returned (.tuple #[]) ∧ ∃ n os, w' = grow (putRow (Value.int .u32) (Sort.ahead w n) blk off (Sort.sort ltInt d)) os := by
 have HH : Hid (Holds (Value.int .u32) w blk off d) := hH
 clear hH
 have hLen : ∀ w, Calls Tryz.prog 91 #[.int .u64 (d.size : Int)] w fun e w' => e = .returned (.int .i64 (bitsLen d.size : Nat)) ∧ w' = w := fun w => by
  have h := bits_Len_u (d.size : Int) w Z8 Z8
  rwa [Int.toNat_natCast, bitLen_eq _ Z8] at h
 have hk : bitsLen d.size ≤ 62 := (bitsLen_le_iff d.size 62).2 Z8
 go_enter Tryz.func80, Tryz.ntmps80
 go_wp2_with (first
  | (go_at_call 91; refine (hLen _).mono ?_; rintro e w' ⟨rfl, rfl⟩)
  | (go_at_call 90; refine (pdqsort_u callees13 plain13 (d.size - 0 + 1) blk off cap 0 d.size (bitsLen d.size) d _ Z8 (by exact HH.out) (by exact hblk) (Nat.zero_le _) (Nat.le_refl _) hsz Z8 (Or.inl rfl)).mono ?_; rintro e w' ⟨rfl, n, os, rfl⟩))
 go_end0
 exact ⟨rfl, n, os, rfl⟩
theorem sort_eq (zs : List Int) : Sort.sort ltInt zs.toArray = (zs.mergeSort fun x y => decide (x ≤ y)).toArray := by
 rw [← sortInt zs]
theorem slices_Sort_u (blk off cap : Nat) (zs : List Int) (w : World) (hH : Holds (Value.int .u32) w blk off zs.toArray) (hblk : blk < w.heap.size) (hsz : zs.length < 4611686018427387904) :
 Calls Tryz.prog 80 #[.slice (some ⟨blk, off, none⟩) zs.length cap] w fun e w' =>
  e = .returned (.tuple #[]) ∧ ∃ n os, w' = grow (putRow (Value.int .u32) (Sort.ahead w n) blk off (zs.mergeSort fun x y => decide (x ≤ y)).toArray) os := by
 have h := Sort_u blk off cap zs.toArray w hH hblk (by simpa using hsz)
 rw [sort_eq] at h
 simpa using h
def cp_ren : Go.Shelf.Ren := ⟨fun | 43 => 82 | n => n, fun | 22 => 45 | 23 => 35 | 3 => 3 | 4 => 4 | 0 => 0 | n => n, fun | n => n⟩
theorem cp : SlLaysE.n43 Tryz.prog cp_ren := {
 mixed := ZAB,
 f43 := ⟨Tryz.f82.name, ZAH, Tryz.func82.trans (congrArg some ZAB)⟩,
 t0 := Tryz.underlying0,
 a0 := Tryz.isAgg0,
 z0 := Tryz.sizeOf0,
 v0 := Tryz.zeroValue0,
 t3 := Tryz.underlying3,
 a3 := Tryz.isAgg3,
 z3 := Tryz.sizeOf3,
 v3 := Tryz.zeroValue3,
 t4 := Tryz.underlying4,
 a4 := Tryz.isAgg4,
 z4 := Tryz.sizeOf4,
 v4 := Tryz.zeroValue4,
 t22 := Tryz.underlying45,
 a22 := Tryz.isAgg45,
 z22 := Tryz.sizeOf45,
 v22 := Tryz.zeroValue45,
 a23 := Tryz.isAgg35,
 z23 := Tryz.sizeOf35 }
def df_ren : Go.Shelf.Ren := ⟨fun | 10 => 128 | 6 => 140 | n => n, fun | 22 => 45 | 23 => 35 | 25 => 133 | 3 => 3 | 4 => 4 | 0 => 0 | n => n, fun | n => n⟩
theorem df : SlLaysH.n10 Tryz.prog df_ren := {
 mixed := ZAB,
 f6 := ⟨Tryz.f140.name, ZAH, Tryz.func140.trans (congrArg some ZAB)⟩,
 f10 := ⟨Tryz.f128.name, ZAH, Tryz.func128.trans (congrArg some ZAB)⟩,
 t0 := Tryz.underlying0,
 a0 := Tryz.isAgg0,
 z0 := Tryz.sizeOf0,
 v0 := Tryz.zeroValue0,
 t3 := Tryz.underlying3,
 a3 := Tryz.isAgg3,
 z3 := Tryz.sizeOf3,
 v3 := Tryz.zeroValue3,
 t4 := Tryz.underlying4,
 a4 := Tryz.isAgg4,
 z4 := Tryz.sizeOf4,
 v4 := Tryz.zeroValue4,
 t22 := Tryz.underlying45,
 a22 := Tryz.isAgg45,
 z22 := Tryz.sizeOf45,
 v22 := Tryz.zeroValue45,
 a23 := Tryz.isAgg35,
 z23 := Tryz.sizeOf35,
 t25 := Tryz.underlying133,
 a25 := Tryz.isAgg133,
 z25 := Tryz.sizeOf133,
 v25 := Tryz.zeroValue133 }
def ints (V : List Nat) : List Int := V.map fun x : Nat => (x : Int)
def vals (V : List Nat) : List Value := V.map fun x : Nat => .int .u32 (x : Int)
theorem ints_get (V : List Nat) (j : Nat) (hj : j < V.length) : (ints V).toArray[j]! = (V[j] : Int) := by
 rw [getElem!_pos _ j (by simpa [ints] using hj)]
 simp [ints]
section
variable {w : World} {base g cap : Nat} {V : List Nat}
theorem own_parts (h : w.ownsRow base 35 1 (.slice (some ⟨g, 0, none⟩) (V.length) cap) (V.length) (vals (V))) : base ≤ g ∧ g < w.heap.size ∧ V.length ≤ cap ∧ cap ≤ maxLen ∧ ∃ cur, w.heap[g]? = some (.cells cur 35 (0, 0)) ∧ cur.size = cap ∧ cur.toList.take V.length = vals V := by
 obtain ⟨h1, h2⟩ := h
 rcases h2 with ⟨h2, _⟩ | ⟨g', cap', cur, hv, hb, hh, hn, hc, hs, ht⟩
 ·cases h2
 ·simp only [Value.slice.injEq, Option.some.injEq, Addr.mk.injEq] at hv
  obtain ⟨⟨rfl, _⟩, _, rfl⟩ := hv
  exact ⟨hb, (Array.getElem?_eq_some_iff.1 hh).1, hn, hc, cur, hh, by simpa using hs, by simpa using ht⟩
theorem own_holds (h : w.ownsRow base 35 1 (.slice (some ⟨g, 0, none⟩) (V.length) cap) (V.length) (vals (V))) : Holds (Value.int .u32) w g 0 (ints V).toArray := by
 obtain ⟨h1, h2, h3, h4, cur, h5, h6, h7⟩ := own_parts h
 intro j hj
 have hj' : j < V.length := by simpa [ints] using hj
 rw [ints_get V j hj', Nat.zero_add]
 refine ⟨?_, by simp [World.frozen?, h5]⟩
 have hv : (vals V)[j]? = some (.int .u32 (V[j] : Int)) := by simp [vals, hj']
 rw [← h7, List.getElem?_take, if_pos hj'] at hv
 rw [cell_of_row w g j cur 35 (0, 0) h5]
 simpa using hv
theorem own_put (h : w.ownsRow base 35 1 (.slice (some ⟨g, 0, none⟩) (V.length) cap) (V.length) (vals (V))) (D : List Nat) (hD : D.length = V.length) (m : Nat) (hm : m ≤ V.length) (q : Nat) (os : Array Obj) :
 (grow (putRow (Value.int .u32) (Sort.ahead w q) g 0 (ints D).toArray) os).ownsRow base 35 1 (.slice (some ⟨g, 0, none⟩) m cap) m (vals (D.take m)) ∧ Mem.Keeps (fun k => k = g) w (grow (putRow (Value.int .u32) (Sort.ahead w q) g 0 (ints D).toArray) os) := by
 have hH := own_holds h
 obtain ⟨h1, h2, h3, h4, cur, h5, h6, h7⟩ := own_parts h
 obtain ⟨W, hW⟩ := ZE (putRow (Value.int .u32) (Sort.ahead w q) g 0 (ints D).toArray)
 have hz : W.heap.size = w.heap.size := by rw [hW]; simp [Sort.ahead]
 have hc : ∀ j (hj : j < V.length), W.cell? ⟨g, j, none⟩ = some (.int .u32 (D[j]'Z8 : Int)) := fun j hj => by
  have := cell?_putRow (Value.int .u32) (Sort.ahead w q) g 0 (ints V).toArray (ints D).toArray (holds_ahead _ _ _ _ _ _ hH) (by simp [ints, hD]) j (by simpa [ints, hD] using hj)
  rw [ints_get D j Z8, Nat.zero_add] at this
  rw [hW]; exact this
 have hb : W.heap[g]? = some (.cells (putCells (Value.int .u32) 0 (ints D).toArray cur) 35 (0, 0)) := by
  rw [hW]
  unfold putRow mapBlock Sort.ahead
  simp [Array.getElem?_modify, h5, onCells]
 have hsz : (putCells (Value.int .u32) 0 (ints D).toArray cur).size = cap := by rw [← h6]; simp [putCells]
 have hbg : (grow W os).heap[g]? = some (.cells (putCells (Value.int .u32) 0 (ints D).toArray cur) 35 (0, 0)) := by rw [heap_grow_old _ _ Z8]; exact hb
 rw [← hW]
 refine ⟨⟨by simp [vals]; omega, .inr ⟨g, cap, _, rfl, h1, hbg, Z8, h4, by simpa using hsz, ?_⟩⟩, ?_⟩
 ·rw [Nat.mul_one]
  apply List.ext_getElem?
  intro j
  rw [List.getElem?_take]
  split
  ·rename_i hj
   have := hc j Z8
   rw [cell_of_row W g j _ 35 (0, 0) hb] at this
   simp only [Array.getElem?_toList] at this ⊢
   rw [this]
   simp [vals, List.getElem?_take, hj, show j < D.length by omega]
  ·rename_i hj
   simp [vals]; omega
 ·refine ⟨by rw [hW]; rfl, by rw [hW]; rfl, by rw [hW]; rfl, by simp [grow]; omega, fun k hk hn => ?_⟩
  rw [heap_grow_old _ _ Z8, hW]
  unfold putRow mapBlock Sort.ahead
  simp [Array.getElem?_modify, Ne.symm hn]
theorem sort_own (h : w.ownsRow base 35 1 (.slice (some ⟨g, 0, none⟩) (V.length) cap) (V.length) (vals (V))) (hl : V.length ≤ 1000000000) :
 Calls Tryz.prog 80 #[.slice (some ⟨g, 0, none⟩) V.length cap] w fun e w' => e = .returned (.tuple #[]) ∧ ∃ D, D.length = V.length ∧ D.Pairwise (· ≤ ·) ∧ (∀ x, x ∈ D ↔ x ∈ V) ∧ w'.ownsRow base 35 1 (.slice (some ⟨g, 0, none⟩) (V.length) cap) (V.length) (vals (D)) ∧ Mem.Keeps (fun k => k = g) w w' := by
 have hlt := (own_parts h).2.1
 have hs := slices_Sort_u g 0 cap (ints V) w (own_holds h) hlt (by simp [ints]; omega)
 rw [show (ints V).length = V.length by simp [ints]] at hs
 refine hs.mono ?_
 rintro e w' ⟨rfl, n, os, rfl⟩
 refine ⟨rfl, V.mergeSort fun x y => decide (x ≤ y), ZA7, ?_, fun x => ZA7, ?_⟩
 ·have := List.pairwise_mergeSort (le := fun x y : Nat => decide (x ≤ y)) (fun a b c => ZAV) (fun a b => ZAV) V
  simpa using this
 ·have e1 : (ints V).mergeSort (fun x y => decide (x ≤ y)) = ints (V.mergeSort fun x y => decide (x ≤ y)) := by
   unfold ints
   exact (List.map_mergeSort (fun a _ b _ => ZA7)).symm
  rw [e1]
  have := own_put h (V.mergeSort fun x y => decide (x ≤ y)) ZA7 V.length (Nat.le_refl _) n os
  rwa [List.take_of_length_le ZA7] at this
theorem compact_spec (D : List Nat) (hs : D.Pairwise (· ≤ ·)) : ∀ m, m ≤ D.length → ∃ C, Lib.compactUpTo (ints D).toArray m = ints C ∧ C.Pairwise (· < ·) ∧ C.length ≤ m ∧ ∀ x, x ∈ C ↔ x ∈ D.take m := by
 intro m
 induction m with
 | zero => intro _; exact ⟨[], by simp [Lib.compactUpTo, ints], ZA7, ZA7, ZA7⟩
 | succ m ih =>
  intro hm
  obtain ⟨C, h1, h2, hl, h3⟩ := ih Z8
  have hd : (ints D).toArray[m]! = (D[m] : Int) := ints_get D m Z8
  have ht : D.take (m + 1) = D.take m ++ [D[m]] := by rw [List.take_succ_eq_append_getElem Z8]
  rw [Lib.compactUpTo_succ, h1]
  cases hk : Lib.keeps (ints D).toArray m with
  | true =>
   refine ⟨C ++ [D[m]], by rw [if_pos rfl, hd]; simp [ints], ?_, ZAV, fun x => by rw [ht, List.mem_append, List.mem_append, h3]⟩
   rw [List.pairwise_append]
   refine ⟨h2, ZA7, ?_⟩
   intro a ha b hb
   simp only [List.mem_singleton] at hb
   subst hb
   rw [h3] at ha
   obtain ⟨j, hj, rfl⟩ := List.mem_take_iff_getElem.1 ha
   have hj' : j < m := by omega
   rcases Nat.eq_zero_or_pos m with h0 | h0
   ·omega
   ·have hne : (ints D).toArray[m]! ≠ (ints D).toArray[m - 1]! := by
     intro he
     rw [Lib.keeps_neg h0 he] at hk; cases hk
    rw [hd, ints_get D (m - 1) Z8] at hne
    have h4 : D[m - 1] ≤ D[m] := (List.pairwise_iff_getElem.1 hs) (m - 1) m Z8 Z8 Z8
    have h5 : D[j] ≤ D[m - 1] := by
     rcases Nat.lt_or_ge j (m - 1) with h | h
     ·exact (List.pairwise_iff_getElem.1 hs) j (m - 1) Z8 Z8 h
     ·have : j = m - 1 := by omega
      subst this; exact Nat.le_refl _
    omega
  | false =>
   refine ⟨C, ZA7, h2, Z8, fun x => ?_⟩
   rw [h3, ht, List.mem_append, List.mem_singleton]
   refine ⟨.inl, fun hx => hx.elim id (fun hx => ?_)⟩
   subst hx
   have h0 : 0 < m := by
    rcases Nat.eq_zero_or_pos m with h0 | h0
    ·subst h0
     rw [Lib.keeps_lt_one _ 0 Z8] at hk; cases hk
    ·exact h0
   have he : (ints D).toArray[m]! = (ints D).toArray[m - 1]! := by
    refine Classical.byContradiction fun hne => ?_
    rw [Lib.keeps_pos hne] at hk; cases hk
   rw [hd, ints_get D (m - 1) Z8] at he
   rw [List.mem_take_iff_getElem]
   exact ⟨m - 1, Z8, Z8⟩
theorem compact_own (h : w.ownsRow base 35 1 (.slice (some ⟨g, 0, none⟩) (V.length) cap) (V.length) (vals (V))) (hs : V.Pairwise (· ≤ ·)) :
 Calls Tryz.prog 82 #[.slice (some ⟨g, 0, none⟩) V.length cap] w fun e w' => ∃ C, e = .returned (.slice (some ⟨g, 0, none⟩) C.length cap) ∧ C.Pairwise (· < ·) ∧ (∀ x, x ∈ C ↔ x ∈ V) ∧ C.length ≤ V.length ∧ w'.ownsRow base 35 1 (.slice (some ⟨g, 0, none⟩) (C.length) cap) (C.length) (vals (C)) ∧ Mem.Keeps (fun k => k = g) w w' := by
 obtain ⟨p1, p2, p3, p4, _⟩ := own_parts h
 have hc := AnyE.slices_Compact cp (Value.int .u32) (fun _ => rfl) (EqlAt.intD _ _ _) (NeqAt.intD _ _ _) 0 Tryz.zeroValue35 g 0 cap (ints V).toArray w (own_holds h) (by simp [ints]; unfold maxLen at p4; omega) (by simpa [ints] using p3)
 rw [show (ints V).toArray.size = V.length by simp [ints]] at hc
 obtain ⟨C, h1, h2, hl, h3⟩ := compact_spec V hs V.length (Nat.le_refl _)
 rw [h1] at hc
 refine Calls.mono hc ?_
 rintro e w' ⟨rfl, q, rfl⟩
 have e0 : (ints C).length = C.length := by simp [ints]
 have e1 : (ints C ++ List.replicate (V.length - (ints C).length) 0) = ints (C ++ List.replicate (V.length - C.length) 0) := by simp [ints]
 have := own_put h (C ++ List.replicate (V.length - C.length) 0) ZAV C.length hl q #[]
 rw [List.take_left, grow_empty] at this
 refine ⟨C, by rw [e0], h2, fun x => by rw [h3, List.take_length], hl, ?_⟩
 rw [e1]
 exact this
theorem filter_ints (V : List Nat) (id : Nat) : ((ints V).toArray.toList.filter fun x => !decide (x = (id : Int))) = ints (V.filter fun x => decide (x ≠ id)) := by
 unfold ints
 rw [List.filter_map]
 congr 1
 apply List.filter_congr
 intro x _
 simp [Function.comp_def]
 omega
theorem delf_own (h : w.ownsRow base 35 1 (.slice (some ⟨g, 0, none⟩) (V.length) cap) (V.length) (vals (V))) (id B : Nat) (hB : Mem.Blk w B 35 [.int .u32 (id : Int)]) (hne : B ≠ g) :
 Calls Tryz.prog 128 #[.slice (some ⟨g, 0, none⟩) V.length cap, .func (.func 129) #[] #[.pointer (some ⟨B, 0, none⟩)]] w fun e w' => e = .returned (.slice (some ⟨g, 0, none⟩) (V.filter fun x => decide (x ≠ id)).length cap) ∧ w'.ownsRow base 35 1 (.slice (some ⟨g, 0, none⟩) ((V.filter fun x => decide (x ≠ id)).length) cap) ((V.filter fun x => decide (x ≠ id)).length) (vals ((V.filter fun x => decide (x ≠ id)))) ∧ Mem.Keeps (fun k => k = g) w w' := by
 obtain ⟨p1, p2, p3, p4, _⟩ := own_parts h
 have gv : ∀ (x : Int) (W : World), W.cell? ⟨B, 0, none⟩ = some (.int .u32 (id : Int)) → FnGives Tryz.prog 129 #[.pointer (some ⟨B, 0, none⟩)] #[.int .u32 x] (.bool (decide (x = (id : Int)))) W := by
  intro x W hc
  show Calls Tryz.prog 129 #[.int .u32 x, .pointer (some ⟨B, 0, none⟩)] W _
  go_enter Tryz.func129, Tryz.ntmps129
  go_wp2
  all_goals (go_ret; exact ⟨by first | rfl | simp [beq_eq_decide] | simp_all, 0, rfl⟩)
 have hcell : w.cell? ⟨B, 0, none⟩ = some (.int .u32 (id : Int)) := by have := hB.cell 0; simpa using this
 have hpa : PredAt Tryz.prog 129 #[.pointer (some ⟨B, 0, none⟩)] (Value.int .u32) (fun x : Int => decide (x = (id : Int))) w := fun W x hb => gv x W ((hb.cell (p := ⟨B, 0, none⟩) hB.lt).trans hcell)
 have hpo : PredOver Tryz.prog 129 #[.pointer (some ⟨B, 0, none⟩)] (Value.int .u32) (fun x : Int => decide (x = (id : Int))) g 0 (ints V).toArray.size w := fun n os dk x _ => gv x _ (by
  unfold sortWorld
  rw [cell?_grow _ _ _ (by show B < (putRow _ _ _ _ _).heap.size; rw [size_putRow]; exact hB.lt), cell?_putRow_other _ _ g 0 _ _ (Or.inl hne)]
  exact hcell)
 have hc := AnyE.slices_DeleteFunc df (Value.int .u32) (fun _ => rfl) (fun x : Int => decide (x = (id : Int))) 129 #[.pointer (some ⟨B, 0, none⟩)] (enters_of Tryz.func129 ZAB rfl) 0 Tryz.zeroValue35 g 0 cap (ints V).toArray w hpa hpo (own_holds h) (by simp [ints]; unfold maxLen at p4; omega) (by simpa [ints] using p3)
 rw [show (ints V).toArray.size = V.length by simp [ints], filter_ints] at hc
 refine Calls.mono hc ?_
 rintro e w' ⟨rfl, q, rfl⟩
 obtain ⟨C, hC⟩ := ZE (V.filter fun x => decide (x ≠ id))
 have hl : C.length ≤ V.length := by rw [hC]; exact List.length_filter_le _ _
 rw [← hC]
 have e0 : (ints C).length = C.length := by simp [ints]
 have e1 : (ints C ++ List.replicate (V.length - (ints C).length) 0) = ints (C ++ List.replicate (V.length - C.length) 0) := by simp [ints]
 have := own_put h (C ++ List.replicate (V.length - C.length) 0) ZAV C.length hl q #[]
 rw [List.take_left, grow_empty] at this
 refine ⟨by rw [e0], ?_⟩
 rw [e1]
 exact this
end
end So
end Go.Proofs.YtdbpfbokfmpgcaaGreat
