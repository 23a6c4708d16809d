/-
FiT: told (of the finder's law); same; all.
FiU: New, Fits, a step's change, told of what an index tells.
-/
import Derived.Test.YtdbpfbokfmpgcaaGreatZavTreeCTreeDTrMTreeBaTreeE
import Derived.Test.YtdbpfbokfmpgcaaGreatZaaMemIterTreeAHeldGrowIter
import Derived.Maps.AppendAt
import Derived.Maps.OwnIn
import Derived.Shelf.Abstract
import Derived.Test.YtdbpfbokfmpgcaaGreatZbqFiRFiS
set_option linter.ambiguousOpen false
namespace Go.Proofs.YtdbpfbokfmpgcaaGreat
open Go.RowKit
set_option linter.unusedVariables false
attribute [local go_sem] Oper.semAt_some
namespace Tree
open Mem
/-- the state of told between two rounds -/
def ToldI (w : World) (B3 B5 : Nat) (most : Int) (pre : List Nat) (S : Nat → Prop) (W : World) : Prop :=
  ∃ a c, Blk W B5 45 [.slice a pre.length c] ∧ Blk W B3 3 [.int .i64 most] ∧ W.ownsRow w.heap.size 35 1 (.slice a pre.length c) pre.length (u32s pre) ∧ Below w.heap.size w W ∧
    (∀ k, S k ↔ k = B5 ∨ (Value.slice a pre.length c).ownBlock = some k) ∧ (1 ≤ most → (pre.length : Int) < most)
def ToldX (w : World) (B3 B5 : Nat) (most : Int) (c0 : Code) (pre : List Nat) (S : Nat → Prop) (W : World) : Prop :=
  c0 = .exit 0 ∧ pre ≠ [] ∧ (pre.length : Int) = most ∧ ∃ a c, Blk W B5 45 [.slice a pre.length c] ∧ W.ownsRow w.heap.size 35 1 (.slice a pre.length c) pre.length (u32s pre) ∧ Below w.heap.size w W ∧
    (∀ k, S k ↔ k = B5 ∨ (Value.slice a pre.length c).ownBlock = some k)
theorem told_stab (w : World) (B3 B5 : Nat) (most : Int) (b : Nat) (h3 : B3 < b) (hb : w.heap.size ≤ b) : Stab b (ToldI w B3 B5 most) := by
  intro pre S T W W' ⟨a, c, h1, h2, h3', h4, h5, h6⟩ hin hk hd ht
  refine ⟨a, c, h1.keeps hk (hd _ ((h5 _).2 (.inl rfl))), h2.keeps hk (fun h => by have := ht _ h; omega), owns_keeps h3' hk (fun k hk' => hd _ ((h5 _).2 (.inr hk'))), h4.trans ⟨hk.os, hk.tape, hk.output, hk.size, fun k hk' => ?_⟩, h5, h6⟩
  exact hk.block k (Nat.lt_of_lt_of_le hk' h4.size |> fun h => by have := h4.size; have := h1.lt; omega) (fun h => by have := ht _ h; omega)
theorem toldx_stab (w : World) (B3 B5 : Nat) (most : Int) (b : Nat) (hb : w.heap.size ≤ b) (c0 : Code) : Stab b (ToldX w B3 B5 most c0) := by
  intro pre S T W W' ⟨h0, h01, h02, a, c, h1, h3', h4, h5⟩ hin hk hd ht
  refine ⟨h0, h01, h02, a, c, h1.keeps hk (hd _ ((h5 _).2 (.inl rfl))), owns_keeps h3' hk (fun k hk' => hd _ ((h5 _).2 (.inr hk'))), h4.trans ⟨hk.os, hk.tape, hk.output, hk.size, fun k hk' => ?_⟩, h5⟩
  exact hk.block k (by have := h4.size; omega) (fun h => by have := ht _ h; omega)
theorem cut_len (most : Int) (pre rest : List Nat) (h : (pre.length : Int) = most) (hne : pre ≠ []) : cut most (pre ++ rest) = pre := by
  have : 0 < pre.length := List.length_pos_iff.2 hne
  unfold cut
  rw [if_pos (by omega), show most.toNat = pre.length by omega, List.take_left]
theorem eq_seq (gf : Nat) (lb : Array Value) (W : World) : (binOp .eql 42 (.func (.func gf) #[] lb) .nilFunc).run Tryz.prog W = .ok (.bool false) W := by kernel_rfl
theorem told_grow (w W w1 : World) (B5 B3 : Nat) (most : Int) (pre : List Nat) (x : Nat) (S : Nat → Prop) (a : Option Addr) (c g cap : Nat) (o : Obj)
    (hS : ∀ k, S k ↔ k = B5 ∨ (Value.slice a pre.length c).ownBlock = some k) (hin : Inb S W) (hO : W.ownsRow w.heap.size 35 1 (.slice a pre.length c) pre.length (u32s pre))
    (h5 : Blk w1 B5 45 [.slice a pre.length c]) (h3 : Blk w1 B3 3 [.int .i64 most])
    (hown : w1.ownsRow w.heap.size 35 1 (.slice (some ⟨g, 0, none⟩) (pre.length + 1) cap) (pre.length + 1) (u32s pre ++ [.int .u32 (x : Int)]))
    (hgrow : (W.alloc o).grownBy w1 (Value.slice a pre.length c).ownBlock)
    (hat : (Value.slice (some ⟨g, 0, none⟩) (pre.length + 1) cap).ownBlock = (Value.slice a pre.length c).ownBlock ∨ (Value.slice (some ⟨g, 0, none⟩) (pre.length + 1) cap).ownBlock = some (W.alloc o).heap.size)
    (hB : Below w.heap.size w W) (hb5 : w.heap.size ≤ B5) :
    Foot S (fun k => k = B5 ∨ k = g) W (w1.setCell ⟨B5, 0, none⟩ (.slice (some ⟨g, 0, none⟩) (pre.length + 1) cap)) ∧
    Inb (fun k => k = B5 ∨ k = g) (w1.setCell ⟨B5, 0, none⟩ (.slice (some ⟨g, 0, none⟩) (pre.length + 1) cap)) ∧
    Blk (w1.setCell ⟨B5, 0, none⟩ (.slice (some ⟨g, 0, none⟩) (pre.length + 1) cap)) B5 45 [.slice (some ⟨g, 0, none⟩) (pre ++ [x]).length cap] ∧
    Blk (w1.setCell ⟨B5, 0, none⟩ (.slice (some ⟨g, 0, none⟩) (pre.length + 1) cap)) B3 3 [.int .i64 most] ∧
    (w1.setCell ⟨B5, 0, none⟩ (.slice (some ⟨g, 0, none⟩) (pre.length + 1) cap)).ownsRow w.heap.size 35 1 (.slice (some ⟨g, 0, none⟩) (pre ++ [x]).length cap) (pre ++ [x]).length (u32s (pre ++ [x])) ∧
    Below w.heap.size w (w1.setCell ⟨B5, 0, none⟩ (.slice (some ⟨g, 0, none⟩) (pre.length + 1) cap)) ∧
    (∀ k, (k = B5 ∨ k = g) ↔ k = B5 ∨ (Value.slice (some ⟨g, 0, none⟩) (pre ++ [x]).length cap).ownBlock = some k) := by
  have hn5 : some B5 ≠ (Value.slice (some ⟨g, 0, none⟩) (pre.length + 1) cap).ownBlock := own_ne hown h5 (by decide)
  have hk : Keeps S W w1 := ((Keeps.refl S W).alloc o).grown hgrow (fun k hk e => (hS k).2 (.inr e))
  have hgl : g < w1.heap.size := (hown.lt g rfl).2
  have e1 : (pre ++ [x]).length = pre.length + 1 := by simp
  have e2 : u32s (pre ++ [x]) = u32s pre ++ [.int .u32 (x : Int)] := by simp [u32s]
  refine ⟨⟨hk.setCell (p := ⟨B5, 0, none⟩) (fun _ => (hS B5).2 (.inl rfl)) _, fun k h => ?_⟩, ?_, ?_, ?_, ?_, ?_, ?_⟩
  · rcases h with rfl | rfl
    · exact .inl ((hS _).2 (.inl rfl))
    · rcases hat with h | h
      · exact .inl ((hS _).2 (.inr h.symm))
      · simp [Value.ownBlock] at h
        exact .inr (by omega)
  · intro k h
    have := h5.lt
    rcases h with rfl | rfl <;> simpa [World.setCell]
  · rw [e1]; simpa using h5.set_ 0 (.slice (some ⟨g, 0, none⟩) (pre.length + 1) cap)
  · exact h3.far (Blk.ne_ h3 h5 (by decide)) _
  · rw [e1, e2]; exact owns_setCell hown (p := ⟨B5, 0, none⟩) hn5.symm _
  · refine Below.setCell ?_ (p := ⟨B5, 0, none⟩) hb5 _
    exact (hB.alloc hB.size o).grown hgrow (by have := hB.size; simp; omega) (fun k hk => (hO.lt k hk).1)
  · intro k
    simp [Value.ownBlock, eq_comm]
set_option maxRecDepth 100000 in
theorem told_any (gf : Nat) (lb : Array Value) (most : Int) (xs : List Nat) (w : World) (A : (Nat → Prop) → Prop) (hl : xs.length ≤ 1000000)
    (eg : ∀ args w, (callFunc gf args).run Tryz.prog w = .ok (.enter gf args) w)
    (hg : ∀ W1, Keeps (fun _ => False) w W1 → Gives Tryz.prog 8 gf lb (fun x : Nat => #[.int .u32 (x : Int)]) xs W1 A) (hA : ∀ S, (∀ k, S k → w.heap.size ≤ k) → A S) :
    Calls Tryz.prog 12 #[.func (.func gf) #[] lb, .int .i64 most] w (Fresh w (cut most xs)) := by
  refine (callsIn_wide (n := 9)).1 ?_
  refine callsIn_of_wp_marks Tryz.func12 rfl trivial ?_ rfl
  simp only [Tryz.ntmps12, List.size_toArray, List.length_cons, List.length_nil, Nat.reduceAdd, Nat.reduceSub, Array.replicate_succ, Array.replicate_zero, List.push_toArray, List.append_toArray, List.nil_append, List.cons_append]
  have HG := Lib.hid hg; clear hg
  have HA := Lib.hid hA; clear hA
  have heq := eq_seq gf lb
  gi_wp2
  have hz1 : ((w.alloc (.cells #[.int .i64 most] 3)).alloc (.cells #[.slice none 0 0] 45)).heap.size = w.heap.size + 1 + 1 := by simp
  refine wpIn_range (gf := gf) (lb := lb) (encs := fun x : Nat => #[.int .u32 (x : Int)]) (xs := xs) (A := A) rfl eg
    (fun W1 hk => HG.out W1 ((((Keeps.refl _ w).alloc _).alloc _).trans hk)) (fun _ => rfl)
    (ToldI w w.heap.size (w.heap.size + 1) most) (ToldX w w.heap.size (w.heap.size + 1) most) (told_stab w _ _ most _ (by omega) (by omega)) (toldx_stab w _ _ most _ (by omega))
    (fun k => k = w.heap.size + 1) (fun k hk => by rw [hz1]; omega) ⟨none, 0, ?i1, ?i2, World.ownsRow_nil _ _ _ _, ((Below.refl _ w).alloc (Nat.le_refl _) _).alloc (by simp) _, ?i3, fun h => by simp; omega⟩
    (fun S hS => HA.out S (fun k hk => by rcases hS k hk with h | h <;> omega))
    (WithAct (ToldI w w.heap.size (w.heap.size + 1) most) (fun x => ⟨#[.func (.func gf) #[] lb, .int .i64 most, undef, .pointer (some ⟨w.heap.size, 0, none⟩), .slice none 0 0, .pointer (some ⟨w.heap.size + 1, 0, none⟩), .int .u32 (x : Int), .func (.func gf) #[] lb, .bool false, undef, .func (.func gf) #[] lb, .int .u32 (x : Int), undef, undef, undef, undef, undef, undef, undef, undef, undef], []⟩))
    (WithAct.stab _ (told_stab w _ _ most _ (by omega) (by omega))) ?assign ?body ?done ?stop
  case i1 =>
    have := Blk.new (w.alloc (.cells #[.int .i64 most] 3)) 45 [.slice none 0 0]
    simpa using this
  case i2 => exact (Blk.new w 3 [.int .i64 most]).alloc _
  case i3 => intro k; simp [Value.ownBlock]
  case assign =>
    intro l pre x rest S W hxs hI hin hlt
    gi_wp2
    exact ⟨S, Foot.refl _ _, hin, hI, rfl⟩
  case body =>
    rintro l pre x rest a1 S W hxs ⟨⟨a, c, h5, h3, hO, hB, hS, hne⟩, ha⟩ hin hlt
    simp only at ha h5 hO hS hne
    subst ha
    have c5 := h5.cell 0
    have f5 := h5.frozen 0
    have c3 := h3.cell 0
    simp only [List.getElem?_cons_zero] at c5 c3
    obtain ⟨i0, hi0, hz0, hz1', hz2⟩ := info_parts u32Info
    have hpl : pre.length + 1 ≤ 1000000 := by rw [hxs] at hl; simp at hl; omega
    gi_wp2_with (gi_at_builtin; refine wpListIn_append_own_at _ rfl (.tmp 12) (.tmp 14) 45 rfl w.heap.size 35 i0 _ 1 4 Tryz.underlying45 hi0 hz0 hz1' hz2 rfl (by decide) (.slice a pre.length c) pre.length (u32s pre) rfl (hO.alloc _) ⟨W.heap.size, 0, none⟩ 1 1 [.int .u32 (x : Int)] rfl rfl (by exact Mem.news_new W _ [_]) (by simp [Value.oneCell']) (by unfold maxLen; omega) (by omega) (by have := hB.size; simp; omega) ?_; intro v' w1 hown' hgrow _ hat; obtain ⟨g', cap', rfl⟩ := ownsRow_succ hown'; have h51 := (h5.alloc (.cells #[.int .u32 (x : Int)] 35)).grown hgrow (own_ne hO h5 (by decide)); have h31 := (h3.alloc (.cells #[.int .u32 (x : Int)] 35)).grown hgrow (own_ne hO h3 (by decide)); have c51 := h51.cell 0; have f51 := h51.frozen 0; have c31 := h31.cell 0; simp only [List.getElem?_cons_zero] at c51 c31; clear c5 f5 c3)
    all_goals
      obtain ⟨t1, t2, t3, t4, t5, t6, t7⟩ := told_grow w W w1 (w.heap.size + 1) w.heap.size most pre x S a c g' cap' (.cells #[.int .u32 (x : Int)] 35) hS hin hO h51 h31 hown' hgrow hat hB (by omega)
      clear hgrow hown' h51 h31 hat c51 f51 c31
    · have ht : ((pre.length : Int) + 1 == most) = true := by assumption
      rw [beq_iff_eq] at ht
      exact ⟨_, t1, t2, rfl, by simp, by simp; omega, some ⟨g', 0, none⟩, cap', t3, t5, t6, t7⟩
    · have ht : ((pre.length : Int) + 1 == most) = false := by assumption
      rw [beq_eq_false_iff_ne] at ht
      exact ⟨_, t1, t2, some ⟨g', 0, none⟩, cap', t3, t4, t5, t6, t7, fun h => by have := hne h; simp; omega⟩
  case done =>
    rintro D S' W' hD hnD hf hin ⟨a, c, h5, h3, hO, hB, hS, hne⟩ hDD
    have c5 := h5.cell 0
    simp only [List.getElem?_cons_zero] at c5
    gi_wp2
    refine ⟨by simp, .inl ⟨_, _, rfl, run_takeDeferred hDD, ?_⟩⟩
    refine ⟨_, results_tmp rfl _ _ _, Value.slice a xs.length c, rfl, ?_, ?_⟩
    · have hcut : cut most xs = xs := by
        unfold cut
        split
        · rename_i h1; have := hne h1; exact List.take_of_length_le (by omega)
        · rfl
      rw [hcut]
      exact owns_keeps hO (keeps_putObj W' D _) (fun k hk e => hnD (e ▸ (hS k).2 (.inr hk)))
    · exact (Keeps.of_below0 hB).then (keeps_putObj W' D _) (fun i hi e => by omega)
  case stop =>
    rintro D c0 pre S' W' hD hnD hf hin hpre ⟨rfl, hne, hm, a, c, h5, hO, hB, hS⟩ hDD
    have c5 := h5.cell 0
    simp only [List.getElem?_cons_zero] at c5
    gi_wp2
    refine ⟨by simp, .inl ⟨_, _, rfl, run_takeDeferred hDD, ?_⟩⟩
    refine ⟨_, results_tmp rfl _ _ _, Value.slice a pre.length c, rfl, ?_, ?_⟩
    · obtain ⟨rest, rfl⟩ := hpre
      rw [cut_len most pre rest hm hne]
      exact owns_keeps hO (keeps_putObj W' D _) (fun k hk e => hnD (e ▸ (hS k).2 (.inr hk)))
    · exact (Keeps.of_below0 hB).then (keeps_putObj W' D _) (fun i hi e => by omega)
def Same (b : Bool) (w : World) (e : Ending) (w' : World) : Prop := e = .returned (.bool b) ∧ Keeps (fun _ => False) w w'
set_option maxHeartbeats 4000000 in
set_option maxRecDepth 100000 in
theorem same_t (v1 v2 : Value) (xs ys : List Nat) (w : World) (h1 : U32s w v1 xs) (h2 : U32s w v2 ys) (l1 : (xs.length : Int) ≤ 1000000) (l2 : (ys.length : Int) ≤ 1000000) :
    Calls Tryz.prog 11 #[v1, v2] w (Same (decide (xs = ys)) w) := by
  obtain ⟨a1, c1, rfl, f1⟩ := h1
  obtain ⟨a2, c2, rfl, f2⟩ := h2
  have HF1 := Lib.hid f1; clear f1
  have HF2 := Lib.hid f2; clear f2
  by_cases hlen : xs.length = ys.length
  · have hlI : ((xs.length : Nat) : Int) = ((ys.length : Nat) : Int) := by omega
    go_enter Tryz.func11, Tryz.ntmps11
    go_wp2
    go_loopw [5] (fun p wr => ∃ i : Nat, i ≤ xs.length ∧ p = .int .i64 (i : Int) ∧ xs.take i = ys.take i ∧ Keeps (fun _ => False) w wr) (fun p _ => xs.length - (intOf p).toNat)
    case atStart => exact ⟨0, Nat.zero_le _, rfl, by simp, Keeps.refl _ _⟩
    case round =>
      obtain ⟨i, hi, rfl, htk, hk⟩ := hrel
      by_cases hlt : i < xs.length
      · obtain ⟨b1, o1, rfl, g1⟩ := HF1.out i xs[i] (List.getElem?_eq_getElem hlt)
        have hlt2 : i < ys.length := by omega
        obtain ⟨b2, o2, rfl, g2⟩ := HF2.out i ys[i] (List.getElem?_eq_getElem hlt2)
        have g1' := hk.cell (p := ⟨b1, o1 + i, none⟩) g1 (fun h => h)
        have g2' := hk.cell (p := ⟨b2, o2 + i, none⟩) g2 (fun h => h)
        have hii : (i : Int) < xs.length := by omega
        have hii2 : (i : Int) < ys.length := by omega
        have hnat : (0 : Int) ≤ i := by omega
        obtain ⟨x, hx⟩ : ∃ x, x = xs[i] := ⟨_, rfl⟩
        obtain ⟨y, hy⟩ : ∃ y, y = ys[i] := ⟨_, rfl⟩
        rw [← hx] at g1'
        rw [← hy] at g2'
        have HT := Lib.hid (show xs.take i = ys.take i ∧ xs[i] = x ∧ ys[i] = y from ⟨htk, hx.symm, hy.symm⟩)
        have HK := Lib.hid hk
        clear g1 g2 hx hy htk hk
        by_cases hxy : x = y
        · subst hxy
          go_wp2
          go_region
          all_goals
            go_wp2
            go_roundw
            case rel => exact ⟨i + 1, by omega, by go_num, by rw [← List.take_append_getElem hlt, ← List.take_append_getElem hlt2, HT.out.1, HT.out.2.1, HT.out.2.2], HK.out.drew⟩
            case measure => simp [intOf]; omega
        · go_wp2
          go_region
          all_goals
            go_wp2
            go_ret
            have hne : xs ≠ ys := by
              rintro rfl
              exact hxy (HT.out.2.1.symm.trans HT.out.2.2)
            exact ⟨by simp [hne], HK.out.drew⟩
      · obtain rfl : i = xs.length := by omega
        have HK := Lib.hid hk; clear hk
        have HT := Lib.hid htk; clear htk
        go_wp2
        go_ret
        have he : xs = ys := by
          have := HT.out
          rw [List.take_length, hlen, List.take_length] at this
          exact this
        exact ⟨by simp [he], HK.out⟩
  · have hne : xs ≠ ys := fun e => hlen (by rw [e])
    have hlI : ¬ ((xs.length : Nat) : Int) = ((ys.length : Nat) : Int) := by omega
    go_enter Tryz.func11, Tryz.ntmps11
    go_wp2
    go_ret
    exact ⟨by simp [hne], Keeps.refl _ _⟩
set_option maxHeartbeats 4000000 in
set_option maxRecDepth 100000 in
theorem all_yes (v1 v2 : Value) (xs ys : List Nat) (w : World) (h1 : U32s w v1 xs) (h2 : U32s w v2 ys) (l1 : (xs.length : Int) ≤ 1000000) (l2 : (ys.length : Int) ≤ 1000000) (hs : ∀ x ∈ xs, x ∈ ys) :
    Calls Tryz.prog 15 #[v1, v2] w (Same true w) := by
  obtain ⟨a1, c1, rfl, f1⟩ := h1
  obtain ⟨a2, c2, rfl, f2⟩ := h2
  have HF1 := Lib.hid f1; clear f1
  have HF2 := Lib.hid f2; clear f2
  have HS := Lib.hid hs; clear hs
  go_enter Tryz.func15, Tryz.ntmps15
  go_wp2
  go_loopw [5] (fun p wr => ∃ i : Nat, i ≤ xs.length ∧ p = .int .i64 (i : Int) ∧ Keeps (fun _ => False) w wr) (fun p _ => xs.length - (intOf p).toNat)
  case atStart => exact ⟨0, Nat.zero_le _, rfl, Keeps.refl _ _⟩
  case round =>
    obtain ⟨i, hi, rfl, hk⟩ := hrel
    by_cases hlt : i < xs.length
    · obtain ⟨b1, o1, rfl, g1⟩ := HF1.out i xs[i] (List.getElem?_eq_getElem hlt)
      have hii : (i : Int) < xs.length := by omega
      obtain ⟨x, hx⟩ : ∃ x, x = xs[i] := ⟨_, rfl⟩
      have hxy : x ∈ ys := HS.out x (by rw [hx]; exact List.getElem_mem hlt)
      rw [← hx] at g1
      have G1 := Lib.hid g1
      have HX := Lib.hid hxy
      have HK := Lib.hid hk
      clear g1 hx hxy hk
      obtain ⟨W0, hW0⟩ : ∃ W0, W0 = wr := ⟨_, rfl⟩
      have hrefl : Keeps (fun _ => False) W0 wr := by rw [hW0]; exact Keeps.refl _ _
      have hz0 : Keeps (fun _ => False) w W0 := by rw [hW0]; exact HK.out
      have HZ := Lib.hid (And.intro hrefl hz0)
      clear hW0 HK hrefl hz0
      go_wp2
      go_loopw [6, 7] (fun p q wr => ∃ k : Nat, k ≤ ys.length ∧ q = .int .i64 (k : Int) ∧ p = .bool (decide (x ∈ ys.take k)) ∧ Keeps (fun _ => False) W0 wr) (fun _ q _ => ys.length - (intOf q).toNat)
      case atStart => exact ⟨0, Nat.zero_le _, rfl, by simp, HZ.out.1⟩
      case round =>
        obtain ⟨k, hk1, rfl, rfl, hkk⟩ := hrel
        by_cases hlt2 : k < ys.length
        · obtain ⟨b2, o2, rfl, g2⟩ := HF2.out k ys[k] (List.getElem?_eq_getElem hlt2)
          have hkk2 := HZ.out.2.trans hkk
          have g2' := hkk2.cell (p := ⟨b2, o2 + k, none⟩) g2 (fun h => h)
          have g1' := hkk2.cell (p := ⟨b1, o1 + i, none⟩) G1.out (fun h => h)
          have hii2 : (k : Int) < ys.length := by omega
          obtain ⟨y, hy⟩ : ∃ y, y = ys[k] := ⟨_, rfl⟩
          rw [← hy] at g2'
          have HY := Lib.hid hy
          have HQ := Lib.hid hkk
          clear g2 hy hkk hkk2
          have htk : ys.take (k + 1) = ys.take k ++ [y] := by rw [HY.out]; exact (List.take_append_getElem hlt2).symm
          have HT := Lib.hid htk
          clear htk
          cases hf : decide (x ∈ ys.take k)
          · have HF := Lib.hid hf
            clear hf
            by_cases hxy : x = y
            · subst hxy
              go_wp2
              go_region
              all_goals
                go_wp2
                go_roundw
                case rel => exact ⟨k + 1, by omega, by go_num, by rw [HT.out]; simp, HQ.out.drew⟩
                case measure => simp [intOf]; omega
            · have hne : ¬ (x : Int) = (y : Int) := fun e => hxy (Int.ofNat.inj e)
              go_wp2
              go_region
              all_goals
                go_wp2
                go_roundw
                case rel => exact ⟨k + 1, by omega, by go_num, by rw [HT.out]; have := HF.out; simp at this; simp [hxy, this]; exact fun e => hxy (Int.ofNat.inj e), HQ.out.drew⟩
                case measure => simp [intOf]; omega
          · have HF := Lib.hid hf
            clear hf
            go_wp2
            go_region
            all_goals
              go_wp2
              go_roundw
              case rel => exact ⟨k + 1, by omega, by go_num, by rw [HT.out]; have := HF.out; simp at this; simp [this], HQ.out.drew⟩
              case measure => simp [intOf]; omega
        · obtain rfl : k = ys.length := by omega
          have hd : decide (x ∈ ys.take ys.length) = true := by rw [List.take_length]; exact decide_eq_true HX.out
          rw [hd]
          have HQ := Lib.hid (HZ.out.2.trans hkk)
          clear hkk hd
          go_wp2
          go_roundw
          case rel => exact ⟨i + 1, by omega, by go_num, HQ.out⟩
          case measure => simp [intOf]; omega
    · obtain rfl : i = xs.length := by omega
      have HK := Lib.hid hk; clear hk
      go_wp2
      go_ret
      exact ⟨rfl, HK.out⟩
end Tree
end Go.Proofs.YtdbpfbokfmpgcaaGreat
namespace Go.Proofs.YtdbpfbokfmpgcaaGreat
open Go.RowKit Go.Shelf
set_option linter.unusedVariables false
set_option linter.unusedSimpArgs false
set_option linter.ambiguousOpen false
attribute [local go_sem] Oper.semAt_some
namespace Fi
open Mem Gr Gs
open So (vals)
/-- a step: its numbers -/
structure Stp where
  do_ : Int
  id : Nat
  b : Bx
  px : Int
  py : Int
  qx : Int
  qy : Int
  stop : Int
def Stp.cells (x : Stp) : List Value := [.int .i64 x.do_, .int .u32 (x.id : Int), .int .i32 x.b.x0, .int .i32 x.b.y0, .int .i32 x.b.x1, .int .i32 x.b.y1, .int .i32 x.px, .int .i32 x.py, .int .i32 x.qx, .int .i32 x.qy, .int .i64 x.stop]
theorem ffits11_t (s : Int) (w : World) : Calls Tryz.prog 18 #[.int .i64 s] w fun e w' => e = .returned (.bool (decide (Size s))) ∧ w = w' := by
  unfold Size
  by_cases h1 : 1 ≤ s
  · by_cases h2 : s ≤ 2147483648
    · simp only [h1, h2, and_self, decide_true]
      go_enter Tryz.func18, Tryz.ntmps18
      go_wp2
      go_ret
      exact ⟨rfl, rfl⟩
    · simp only [h1, h2, and_false, decide_false]
      go_enter Tryz.func18, Tryz.ntmps18
      go_wp2
      go_ret
      exact ⟨rfl, rfl⟩
  · simp only [h1, false_and, decide_false]
    go_enter Tryz.func18, Tryz.ntmps18
    go_wp2
    go_ret
    exact ⟨rfl, rfl⟩
theorem ffits_t (i s : Int) (h0 : 0 ≤ i) (h2 : i ≤ 2) (w : World) : Calls Tryz.prog 6 #[.int .i64 i, .int .i64 s] w fun e w' => e = .returned (.bool (decide (Size s))) ∧ w = w' := by
  have z := ffits11_t s
  obtain ⟨c, hc⟩ : ∃ c, c = decide (Size s) := ⟨_, rfl⟩
  rw [← hc]
  simp only [← hc] at z
  clear hc
  go_enter Tryz.func6, Tryz.ntmps6
  go_wp2_with (go_at_call 18; (with_reducible refine (z _).mono ?_); rintro e w4 ⟨rfl, rfl⟩)
  go_ret
  exact ⟨rfl, rfl⟩
/-! New -/
def NewP (w : World) (e : Ending) (w' : World) : Prop := ∃ v F, e = .returned (.tuple #[v, .int .i64 0]) ∧ (FdS w' v F [] ∨ FdG w' v F [] ∨ FdT w' v F []) ∧ Keeps (fun _ => False) w w' ∧ ∀ k, F k → w.heap.size ≤ k
theorem new_bad (i s : Int) (hs : ¬ Size s) (w : World) : Calls Tryz.prog 5 #[.int .i64 i, .int .i64 s] w fun e w' => e = .returned (.tuple #[.nilIface, .int .i64 2]) ∧ Keeps (fun _ => False) w w' := by
  unfold Size at hs
  by_cases h1 : 1 ≤ s
  · have h2 : ¬ s ≤ 2147483648 := fun h => hs ⟨h1, h⟩
    clear hs
    go_enter Tryz.func5, Tryz.ntmps5
    go_wp2
    go_ret2
    exact ⟨rfl, by (repeat (first | exact Keeps.refl _ _ | refine Keeps.alloc ?_ _ | refine Keeps.drew ?_))⟩
  · clear hs
    go_enter Tryz.func5, Tryz.ntmps5
    go_wp2
    go_ret2
    exact ⟨rfl, by (repeat (first | exact Keeps.refl _ _ | refine Keeps.alloc ?_ _ | refine Keeps.drew ?_))⟩
theorem new_scan (s : Int) (hs : Size s) (w : World) : Calls Tryz.prog 5 #[.int .i64 0, .int .i64 s] w (NewP w) := by
  have hmm := @run_makeMap Tryz.prog
  obtain ⟨h1, h2⟩ := hs
  go_enter Tryz.func5, Tryz.ntmps5
  go_wp2
  go_ret2
  refine ⟨_, fun k => k = w.heap.size + 1 ∨ k = w.heap.size, rfl, .inl ⟨w.heap.size + 1, w.heap.size, rfl, ?_, ?_, fun k => Iff.rfl⟩, by (repeat (first | exact Keeps.refl _ _ | refine Keeps.alloc ?_ _ | refine Keeps.drew ?_)), fun k hk => by omega⟩
  · have := Blk.new (w.alloc (.map #[] 0)) 62 [.map (some w.heap.size)]
    simpa [Blk] using this
  · exact (MapL.new kid w).alloc _
theorem gd_new' (w : World) (s : Int) (hs : Size s) : Calls Tryz.prog 16 #[.int .i64 s] w fun e w' => ∃ G F, e = .returned (.tuple #[.pointer (some ⟨G, 0, none⟩), .int .i64 0]) ∧ Gd w' G s (inL []) 0 F ∧ Keeps (fun _ => False) w w' ∧ w.heap.size ≤ G ∧ ∀ k, F k → w.heap.size ≤ k := by
  refine Calls.mono (new_t w s) ?_
  rintro e w' (⟨_, G, r1, r2, r3, rfl, h1, h2, h3, h4, h5, h6⟩ | ⟨h, _⟩)
  · refine ⟨G, FpG r1 r2 r3 [], rfl, ⟨r1, r2, r3, [], [], [], h1, (GI.nil s).congr (fun id b => by simp [inL]), Nat.le_refl _, fun _ => Iff.rfl⟩, h2, h3, ?_⟩
    rintro k (e | e | e | ⟨e, he, _⟩)
    · omega
    · omega
    · omega
    · cases he
  · exact absurd hs h
set_option maxHeartbeats 4000000 in
theorem new_grid (s : Int) (hs : Size s) (w : World) : Calls Tryz.prog 5 #[.int .i64 1, .int .i64 s] w (NewP w) := by
  have hmm := @run_makeMap Tryz.prog
  have k2 : Keeps (fun _ => False) w ((w.alloc (.map #[] 0)).alloc (.cells #[.map (some w.heap.size)] 62)) := by (repeat (first | exact Keeps.refl _ _ | refine Keeps.alloc ?_ _ | refine Keeps.drew ?_))
  have b6 := Blk.new (w.alloc (.map #[] 0)) 62 [.map (some w.heap.size)]
  have m6 : MapL kid ((w.alloc (.map #[] 0)).alloc (.cells #[.map (some w.heap.size)] 62)) w.heap.size (kvB []) := (MapL.new kid w).alloc _
  simp only [World.size_alloc] at b6
  have HZ := Lib.hid (gd_new' ((w.alloc (.map #[] 0)).alloc (.cells #[.map (some w.heap.size)] 62)) s hs)
  have HS := Lib.hid hs
  have HB := Lib.hid (And.intro b6 (And.intro m6 k2))
  obtain ⟨h1, h2⟩ := hs
  clear b6 k2 m6
  go_enter Tryz.func5, Tryz.ntmps5
  go_wp2_with (go_at_call 16; (with_reducible refine HZ.out.mono ?_); rintro e w4 ⟨G, FG, rfl, g1, g2, g3, g4⟩; have c6 := (HB.out.1.keeps g2 (fun h => h)).cell; have HG := Lib.hid (And.intro g1 (And.intro g2 (And.intro g3 g4))); clear g1 g2 g3 g4)
  go_ret2
  obtain ⟨g1, g2, g3, g4⟩ := HG.out
  obtain ⟨b6, m6, k2⟩ := HB.out
  simp only [World.size_alloc] at g3 g4
  have hz := g2.size
  simp only [World.size_alloc] at hz
  have hB := Blk.new w4 69 [.iface 64 (.pointer (some ⟨G, 0, none⟩)), .map (some w.heap.size)]
  refine ⟨_, fun k => k = w4.heap.size ∨ k = w.heap.size ∨ k = G ∨ FG k, rfl, .inr (.inl ⟨w4.heap.size, w.heap.size, G, s, FG, rfl, ?_, (m6.keeps g2 (fun h => h)).alloc _, HS.out, ?_, fun h => by have := g4 _ h; omega, fun k => Iff.rfl⟩), (k2.trans g2).alloc _, fun k hk => ?_⟩
  · first | exact hB | simpa [Blk] using hB
  · exact g1.kd ((Keeps.refl _ w4).alloc _)
  · rcases hk with h | h | h | h
    · omega
    · omega
    · omega
    · have := g4 k h; omega
set_option maxHeartbeats 4000000 in
theorem new_tree (s : Int) (hs : Size s) (w : World) : Calls Tryz.prog 5 #[.int .i64 2, .int .i64 s] w (NewP w) := by
  have hmm := @run_makeMap Tryz.prog
  have k2 : Keeps (fun _ => False) w ((w.alloc (.map #[] 0)).alloc (.cells #[.map (some w.heap.size)] 62)) := by (repeat (first | exact Keeps.refl _ _ | refine Keeps.alloc ?_ _ | refine Keeps.drew ?_))
  have b6 := Blk.new (w.alloc (.map #[] 0)) 62 [.map (some w.heap.size)]
  have m6 : MapL kid ((w.alloc (.map #[] 0)).alloc (.cells #[.map (some w.heap.size)] 62)) w.heap.size (kvB []) := (MapL.new kid w).alloc _
  simp only [World.size_alloc] at b6
  have HZ := Lib.hid Tree.new_t
  have HB := Lib.hid (And.intro b6 (And.intro m6 k2))
  have HSN := Lib.hid (show ∀ W', Keeps (fun _ => False) ((w.alloc (.map #[] 0)).alloc (.cells #[.map (some w.heap.size)] 62)) W' → ∀ i : Nat, W'.cell? ⟨w.heap.size + 1, i, none⟩ = ([.map (some w.heap.size)] : List Value)[i]? from fun W' hk => (b6.keeps hk (fun h => h)).cell)
  obtain ⟨h1, h2⟩ := hs
  clear b6 k2 m6
  go_enter Tryz.func5, Tryz.ntmps5
  go_wp2
  go_region_held3 (fun W => ∀ i : Nat, W.cell? ⟨w.heap.size + 1, i, none⟩ = ([.map (some w.heap.size)] : List Value)[i]?) (first | with_reducible assumption | exact HSN.out _ (by first | exact HK4.out | exact HK4.out.drew | exact HK4.out.alloc _ | (repeat (first | exact Keeps.refl _ _ | refine Keeps.alloc ?_ _ | refine Keeps.drew ?_)))) (first
    | (go_at_call 17; (with_reducible refine (HZ.out _).mono ?_); rintro e w4 ⟨T, FT, rfl, g1, g2, g4⟩; have HK4 := Lib.hid (show Keeps (fun _ => False) ((w.alloc (.map #[] 0)).alloc (.cells #[.map (some w.heap.size)] 62)) w4 from Keeps.trans (by (repeat (first | exact Keeps.refl _ _ | refine Keeps.alloc ?_ _ | refine Keeps.drew ?_))) g2); have HG := Lib.hid (And.intro g1 (And.intro g2 g4)); clear g1 g2 g4))
  all_goals
    go_wp2
    go_ret2
    obtain ⟨g1, g2, g4⟩ := HG.out
    have hk4 := HK4.out
    obtain ⟨b6, m6, k2⟩ := HB.out
    simp only [World.size_alloc, World.size_drew] at g4
    have hz := hk4.size
    simp only [World.size_alloc] at hz
    have hB := Blk.new w4 69 [.iface 70 (.pointer (some ⟨T, 0, none⟩)), .map (some w.heap.size)]
    have hT := g1.inb
    refine ⟨_, fun k => k = w4.heap.size ∨ k = w.heap.size ∨ FT k, rfl, .inr (.inr ⟨w4.heap.size, w.heap.size, T, FT, [], rfl, ?_, ?_, ?_, fun id b => by simp, fun h => by have := hT _ h; omega, fun h => by have := g4 _ h; omega, fun k => Iff.rfl⟩), k2.trans (hk4.trans (by (repeat (first | exact Keeps.refl _ _ | refine Keeps.alloc ?_ _ | refine Keeps.drew ?_)))), fun k hk => ?_⟩
    · exact hB.keeps (S := fun _ => False) (by (repeat (first | exact Keeps.refl _ _ | refine Keeps.alloc ?_ _ | refine Keeps.drew ?_))) (fun h => h)
    · exact (m6.keeps hk4 (fun h => h)).keeps (S := fun _ => False) (by (repeat (first | exact Keeps.refl _ _ | refine Keeps.alloc ?_ _ | refine Keeps.drew ?_))) (fun h => h)
    · exact g1.kd (by (repeat (first | exact Keeps.refl _ _ | refine Keeps.alloc ?_ _ | refine Keeps.drew ?_)))
    · rcases hk with h | h | h
      · omega
      · omega
      · have := g4 k h; omega
/-! a step's change -/
theorem change_put {w0 w : World} {v : Value} {F : Nat → Prop} {L : List (Nat × Bx)} {t : TypeId} {B fP fD : Nat} (hc : Chg w0 v F L t B fP fD) (k0 : Keeps (fun _ => False) w0 w) (x : Stp) (hx : x.do_ = 0) (hid : x.id < 4294967296) :
    Calls Tryz.prog 13 #[v, .agg #[.int .i64 x.do_, .int .u32 (x.id : Int), .int .i32 x.b.x0, .int .i32 x.b.y0, .int .i32 x.b.x1, .int .i32 x.b.y1, .int .i32 x.px, .int .i32 x.py, .int .i32 x.qx, .int .i32 x.qy, .int .i64 x.stop]] w (DidF v F (putF L x.id x.b) w) := by
  have HP := Lib.hid (fun W (k : Keeps (fun _ => False) w W) => hc.aP W (k0.trans k) x.id x.b hid)
  have en := hc.enP
  have hm := hc.mP
  rw [hc.val] at HP ⊢
  have bX := Blk.new w 41 [.int .i64 x.do_, .int .u32 (x.id : Int), .int .i32 x.b.x0, .int .i32 x.b.y0, .int .i32 x.b.x1, .int .i32 x.b.y1, .int .i32 x.px, .int .i32 x.py, .int .i32 x.qx, .int .i32 x.qy, .int .i64 x.stop]
  have HX := Lib.hid bX
  clear hc hid k0 bX
  go_enter Tryz.func13, Tryz.ntmps13
  go_wp2_with ((with_reducible refine (HP.out _ (by (repeat (first | exact Keeps.refl _ _ | refine Keeps.alloc ?_ _ | refine Keeps.drew ?_)))).mono ?_); rintro e w4 ⟨rfl, hd⟩)
  go_ret
  obtain ⟨F', hf, hd⟩ := hd
  refine ⟨rfl, F', ?_, hd⟩
  exact ⟨((Keeps.refl F w).alloc _).trans hf.1, fun k hk => (hf.2 k hk).imp (fun h => h) (fun h => by simp only [World.size_alloc] at h; omega)⟩
theorem change_del {w0 w : World} {v : Value} {F : Nat → Prop} {L : List (Nat × Bx)} {t : TypeId} {B fP fD : Nat} (hc : Chg w0 v F L t B fP fD) (k0 : Keeps (fun _ => False) w0 w) (x : Stp) (hx : ¬ x.do_ = 0) (hid : x.id < 4294967296) :
    Calls Tryz.prog 13 #[v, .agg #[.int .i64 x.do_, .int .u32 (x.id : Int), .int .i32 x.b.x0, .int .i32 x.b.y0, .int .i32 x.b.x1, .int .i32 x.b.y1, .int .i32 x.px, .int .i32 x.py, .int .i32 x.qx, .int .i32 x.qy, .int .i64 x.stop]] w (DidF v F (delF L x.id) w) := by
  have HP := Lib.hid (fun W (k : Keeps (fun _ => False) w W) => hc.aD W (k0.trans k) x.id hid)
  have en := hc.enD
  have hm := hc.mD
  rw [hc.val] at HP ⊢
  clear hc hid k0
  go_enter Tryz.func13, Tryz.ntmps13
  go_wp2_with ((with_reducible refine (HP.out _ (by (repeat (first | exact Keeps.refl _ _ | refine Keeps.alloc ?_ _ | refine Keeps.drew ?_)))).mono ?_); rintro e w4 ⟨rfl, hd⟩)
  go_ret
  obtain ⟨F', hf, hd⟩ := hd
  refine ⟨rfl, F', ?_, hd⟩
  exact ⟨((Keeps.refl F w).alloc _).trans hf.1, fun k hk => (hf.2 k hk).imp (fun h => h) (fun h => by simp only [World.size_alloc] at h; omega)⟩
/-- told, whole -/
theorem told_vals {w : World} {base VB : Nat} {V : List Nat} (hV : Vals base w VB V) (hl : V.length ≤ 65536) : Calls Tryz.prog 12 #[.func (.func 92) #[] #[.pointer (some ⟨VB, 0, none⟩)], .int .i64 0] w fun e w' => ∃ v, e = .returned v ∧ Tree.U32s w' v V ∧ Keeps (fun _ => False) w w' := by
  obtain ⟨_, a, cp, hb, ho⟩ := hV
  refine Calls.mono (Tree.told_any 92 _ 0 V w (fun S => ∀ k, S k → ¬ Tree.rowOf (.slice a V.length cp) k) (by omega) (enters_of Tryz.func92 (by kernel_rfl) rfl)
    (fun W1 k => Tree.values1_gives 8 VB (.slice a V.length cp) V W1 (by omega) (by have := (hb.keeps k (fun h => h)).cell 0; simpa using this) (Tree.U32s.of_own (owns_keeps ho k (fun _ _ h => h)))) (fun S hS k hk hr => ?_)) ?_
  · obtain ⟨a', n', c', e1, e2⟩ := hr
    simp only [Value.slice.injEq] at e1
    obtain ⟨rfl, _, _⟩ := e1
    have := (ho.lt k (by simp [Value.ownBlock, e2])).2
    have := hS k hk
    omega
  · rintro e w' ⟨v, rfl, hr, hk⟩
    have e0 : Tree.cut 0 V = V := rfl
    rw [e0] at hr
    exact ⟨v, rfl, Tree.U32s.of_own hr, hk⟩
end Fi
end Go.Proofs.YtdbpfbokfmpgcaaGreat
