/-
  told: what a walk tells, gathered.
-/
import Derived.Test.YtndghakagogmcaaTreeA
import Derived.Maps.AppendAt
import Derived.Maps.OwnIn
namespace Go.Proofs.Ytndghakagogmcaa
open Go.RowKit
set_option linter.unusedVariables false
attribute [local go_sem] Oper.semAt_some
namespace Tree
open Mem
def cut (most : Int) (xs : List Nat) : List Nat := if 1 ≤ most then xs.take most.toNat else xs
def u32s (xs : List Nat) : List Value := xs.map fun x => .int .u32 ((x : Nat) : Int)
theorem u32Info : (Try.prog.info? 32).map (fun i => (i.zero, i.size, i.bytes)) = some (some (.int .u32 0), 1, 4) := by kernel_rfl
/-- a fresh slice of numbers: what told and found hand back. -/
def Fresh (w : World) (xs : List Nat) (e : Ending) (w' : World) : Prop :=
  ∃ v, e = .returned v ∧ w'.ownsRow w.heap.size 32 1 v xs.length (u32s xs) ∧ Keeps (fun _ => False) w w'
theorem U32s.of_own {w : World} {base : Nat} {v : Value} {xs : List Nat} (h : w.ownsRow base 32 1 v xs.length (u32s xs)) : U32s w v xs := by
  obtain ⟨a, c, rfl⟩ := own_slice h
  refine ⟨a, c, rfl, fun i x hx => ?_⟩
  have hu : (u32s xs)[i]? = some (.int .u32 ((x : Nat) : Int)) := by simp [u32s, hx]
  have hi : i < xs.length := (List.getElem?_eq_some_iff.1 hx).1
  rcases h.2 with ⟨_, h0⟩ | ⟨g, cap, cur, hv, _, _, _⟩
  · omega
  · have hc := h.cells (g := g) (by rw [hv]; rfl) i _ hu
    simp only [Value.slice.injEq] at hv
    rw [Addr.add_mid] at hc
    exact ⟨g, 0, hv.1, hc⟩
theorem rowOf_base {w : World} {base n : Nat} {v : Value} {xs : List Value} (h : w.ownsRow base 32 1 v n xs) (k : Nat) (hk : rowOf v k) : base ≤ k := by
  obtain ⟨a, n', c, rfl, rfl⟩ := hk
  exact (h.lt a.block rfl).1
/-- the state of told between two rounds -/
def ToldI (w : World) (B3 B5 : Nat) (most : Int) (pre : List Nat) (S : Nat → Prop) (W : World) : Prop :=
  ∃ a c, Blk W B5 51 [.slice a pre.length c] ∧ Blk W B3 3 [.int .i64 most] ∧ W.ownsRow w.heap.size 32 1 (.slice a pre.length c) pre.length (u32s pre) ∧ Below w.heap.size w W ∧
    (∀ k, S k ↔ k = B5 ∨ (Value.slice a pre.length c).ownBlock = some k) ∧ (1 ≤ most → (pre.length : Int) < most)
def ToldX (w : World) (B3 B5 : Nat) (most : Int) (c0 : Code) (pre : List Nat) (S : Nat → Prop) (W : World) : Prop :=
  c0 = .exit 0 ∧ pre ≠ [] ∧ (pre.length : Int) = most ∧ ∃ a c, Blk W B5 51 [.slice a pre.length c] ∧ W.ownsRow w.heap.size 32 1 (.slice a pre.length c) pre.length (u32s pre) ∧ Below w.heap.size w W ∧
    (∀ k, S k ↔ k = B5 ∨ (Value.slice a pre.length c).ownBlock = some k)
theorem told_stab (w : World) (B3 B5 : Nat) (most : Int) (b : Nat) (h3 : B3 < b) (hb : w.heap.size ≤ b) : Stab b (ToldI w B3 B5 most) := by
  intro pre S T W W' ⟨a, c, h1, h2, h3', h4, h5, h6⟩ hin hk hd ht
  refine ⟨a, c, h1.keeps hk (hd _ ((h5 _).2 (.inl rfl))), h2.keeps hk (fun h => by have := ht _ h; omega), owns_keeps h3' hk (fun k hk' => hd _ ((h5 _).2 (.inr hk'))), h4.trans ⟨hk.os, hk.tape, hk.output, hk.size, fun k hk' => ?_⟩, h5, h6⟩
  exact hk.block k (Nat.lt_of_lt_of_le hk' h4.size |> fun h => by have := h4.size; have := h1.lt; omega) (fun h => by have := ht _ h; omega)
theorem toldx_stab (w : World) (B3 B5 : Nat) (most : Int) (b : Nat) (hb : w.heap.size ≤ b) (c0 : Code) : Stab b (ToldX w B3 B5 most c0) := by
  intro pre S T W W' ⟨h0, h01, h02, a, c, h1, h3', h4, h5⟩ hin hk hd ht
  refine ⟨h0, h01, h02, a, c, h1.keeps hk (hd _ ((h5 _).2 (.inl rfl))), owns_keeps h3' hk (fun k hk' => hd _ ((h5 _).2 (.inr hk'))), h4.trans ⟨hk.os, hk.tape, hk.output, hk.size, fun k hk' => ?_⟩, h5⟩
  exact hk.block k (by have := h4.size; omega) (fun h => by have := ht _ h; omega)
theorem cut_len (most : Int) (pre rest : List Nat) (h : (pre.length : Int) = most) (hne : pre ≠ []) : cut most (pre ++ rest) = pre := by
  have : 0 < pre.length := List.length_pos_iff.2 hne
  unfold cut
  rw [if_pos (by omega), show most.toNat = pre.length by omega, List.take_left]
theorem eq_seq (gf : Nat) (lb : Array Value) (W : World) : (binOp .eql 60 (.func (.func gf) #[] lb) .nilFunc).run Try.prog W = .ok (.bool false) W := by kernel_rfl
theorem told_grow (w W w1 : World) (B5 B3 : Nat) (most : Int) (pre : List Nat) (x : Nat) (S : Nat → Prop) (a : Option Addr) (c g cap : Nat) (o : Obj)
    (hS : ∀ k, S k ↔ k = B5 ∨ (Value.slice a pre.length c).ownBlock = some k) (hin : Inb S W) (hO : W.ownsRow w.heap.size 32 1 (.slice a pre.length c) pre.length (u32s pre))
    (h5 : Blk w1 B5 51 [.slice a pre.length c]) (h3 : Blk w1 B3 3 [.int .i64 most])
    (hown : w1.ownsRow w.heap.size 32 1 (.slice (some ⟨g, 0, none⟩) (pre.length + 1) cap) (pre.length + 1) (u32s pre ++ [.int .u32 (x : Int)]))
    (hgrow : (W.alloc o).grownBy w1 (Value.slice a pre.length c).ownBlock)
    (hat : (Value.slice (some ⟨g, 0, none⟩) (pre.length + 1) cap).ownBlock = (Value.slice a pre.length c).ownBlock ∨ (Value.slice (some ⟨g, 0, none⟩) (pre.length + 1) cap).ownBlock = some (W.alloc o).heap.size)
    (hB : Below w.heap.size w W) (hb5 : w.heap.size ≤ B5) :
    Foot S (fun k => k = B5 ∨ k = g) W (w1.setCell ⟨B5, 0, none⟩ (.slice (some ⟨g, 0, none⟩) (pre.length + 1) cap)) ∧
    Inb (fun k => k = B5 ∨ k = g) (w1.setCell ⟨B5, 0, none⟩ (.slice (some ⟨g, 0, none⟩) (pre.length + 1) cap)) ∧
    Blk (w1.setCell ⟨B5, 0, none⟩ (.slice (some ⟨g, 0, none⟩) (pre.length + 1) cap)) B5 51 [.slice (some ⟨g, 0, none⟩) (pre ++ [x]).length cap] ∧
    Blk (w1.setCell ⟨B5, 0, none⟩ (.slice (some ⟨g, 0, none⟩) (pre.length + 1) cap)) B3 3 [.int .i64 most] ∧
    (w1.setCell ⟨B5, 0, none⟩ (.slice (some ⟨g, 0, none⟩) (pre.length + 1) cap)).ownsRow w.heap.size 32 1 (.slice (some ⟨g, 0, none⟩) (pre ++ [x]).length cap) (pre ++ [x]).length (u32s (pre ++ [x])) ∧
    Below w.heap.size w (w1.setCell ⟨B5, 0, none⟩ (.slice (some ⟨g, 0, none⟩) (pre.length + 1) cap)) ∧
    (∀ k, (k = B5 ∨ k = g) ↔ k = B5 ∨ (Value.slice (some ⟨g, 0, none⟩) (pre ++ [x]).length cap).ownBlock = some k) := by
  have hn5 : some B5 ≠ (Value.slice (some ⟨g, 0, none⟩) (pre.length + 1) cap).ownBlock := own_ne hown h5 (by decide)
  have hk : Keeps S W w1 := ((Keeps.refl S W).alloc o).grown hgrow (fun k hk e => (hS k).2 (.inr e))
  have hgl : g < w1.heap.size := (hown.lt g rfl).2
  have e1 : (pre ++ [x]).length = pre.length + 1 := by simp
  have e2 : u32s (pre ++ [x]) = u32s pre ++ [.int .u32 (x : Int)] := by simp [u32s]
  refine ⟨⟨hk.setCell (p := ⟨B5, 0, none⟩) (fun _ => (hS B5).2 (.inl rfl)) _, fun k h => ?_⟩, ?_, ?_, ?_, ?_, ?_, ?_⟩
  · rcases h with rfl | rfl
    · exact .inl ((hS _).2 (.inl rfl))
    · rcases hat with h | h
      · exact .inl ((hS _).2 (.inr h.symm))
      · simp [Value.ownBlock] at h
        exact .inr (by omega)
  · intro k h
    have := h5.lt
    rcases h with rfl | rfl <;> simpa [World.setCell]
  · rw [e1]; simpa using h5.set_ 0 (.slice (some ⟨g, 0, none⟩) (pre.length + 1) cap)
  · exact h3.far (Blk.ne_ h3 h5 (by decide)) _
  · rw [e1, e2]; exact owns_setCell hown (p := ⟨B5, 0, none⟩) hn5.symm _
  · refine Below.setCell ?_ (p := ⟨B5, 0, none⟩) hb5 _
    exact (hB.alloc hB.size o).grown hgrow (by have := hB.size; simp; omega) (fun k hk => (hO.lt k hk).1)
  · intro k
    simp [Value.ownBlock, eq_comm]
def WithAct {α : Type} (I : List α → (Nat → Prop) → World → Prop) (f : α → Act) (s : List α × α × Act) (S : Nat → Prop) (W : World) : Prop := I s.1 S W ∧ s.2.2 = f s.2.1
theorem WithAct.stab {α : Type} {I : List α → (Nat → Prop) → World → Prop} {b : Nat} (f : α → Act) (h : Stab b I) : Stab b (WithAct I f) :=
  fun s S T W W' hj hi hk hd ht => ⟨h s.1 S T W W' hj.1 hi hk hd ht, hj.2⟩
set_option maxRecDepth 100000 in
theorem told_any (gf : Nat) (lb : Array Value) (most : Int) (xs : List Nat) (w : World) (A : (Nat → Prop) → Prop) (hl : xs.length ≤ 1000000)
    (eg : ∀ args w, (callFunc gf args).run Try.prog w = .ok (.enter gf args) w)
    (hg : ∀ W1, Keeps (fun _ => False) w W1 → Gives Try.prog 8 gf lb (fun x : Nat => #[.int .u32 (x : Int)]) xs W1 A) (hA : ∀ S, (∀ k, S k → w.heap.size ≤ k) → A S) :
    Calls Try.prog 27 #[.func (.func gf) #[] lb, .int .i64 most] w (Fresh w (cut most xs)) := by
  refine (callsIn_wide (n := 9)).1 ?_
  refine callsIn_of_wp_marks Try.func27 rfl trivial ?_ rfl
  simp only [Try.ntmps27, List.size_toArray, List.length_cons, List.length_nil, Nat.reduceAdd, Nat.reduceSub, Array.replicate_succ, Array.replicate_zero, List.push_toArray, List.append_toArray, List.nil_append, List.cons_append]
  have HG := Lib.hid hg; clear hg
  have HA := Lib.hid hA; clear hA
  have heq := eq_seq gf lb
  gi_wp2
  have hz1 : ((w.alloc (.cells #[.int .i64 most] 3)).alloc (.cells #[.slice none 0 0] 51)).heap.size = w.heap.size + 1 + 1 := by simp
  refine wpIn_range (gf := gf) (lb := lb) (encs := fun x : Nat => #[.int .u32 (x : Int)]) (xs := xs) (A := A) rfl eg
    (fun W1 hk => HG.out W1 ((((Keeps.refl _ w).alloc _).alloc _).trans hk)) (fun _ => rfl)
    (ToldI w w.heap.size (w.heap.size + 1) most) (ToldX w w.heap.size (w.heap.size + 1) most) (told_stab w _ _ most _ (by omega) (by omega)) (toldx_stab w _ _ most _ (by omega))
    (fun k => k = w.heap.size + 1) (fun k hk => by rw [hz1]; omega) ⟨none, 0, ?i1, ?i2, World.ownsRow_nil _ _ _ _, ((Below.refl _ w).alloc (Nat.le_refl _) _).alloc (by simp) _, ?i3, fun h => by simp; omega⟩
    (fun S hS => HA.out S (fun k hk => by rcases hS k hk with h | h <;> omega))
    (WithAct (ToldI w w.heap.size (w.heap.size + 1) most) (fun x => ⟨#[.func (.func gf) #[] lb, .int .i64 most, undef, .pointer (some ⟨w.heap.size, 0, none⟩), .slice none 0 0, .pointer (some ⟨w.heap.size + 1, 0, none⟩), .int .u32 (x : Int), .func (.func gf) #[] lb, .bool false, undef, .func (.func gf) #[] lb, .int .u32 (x : Int), undef, undef, undef, undef, undef, undef, undef, undef, undef], []⟩))
    (WithAct.stab _ (told_stab w _ _ most _ (by omega) (by omega))) ?assign ?body ?done ?stop
  case i1 =>
    have := Blk.new (w.alloc (.cells #[.int .i64 most] 3)) 51 [.slice none 0 0]
    simpa using this
  case i2 => exact (Blk.new w 3 [.int .i64 most]).alloc _
  case i3 => intro k; simp [Value.ownBlock]
  case assign =>
    intro l pre x rest S W hxs hI hin hlt
    gi_wp2
    exact ⟨S, Foot.refl _ _, hin, hI, rfl⟩
  case body =>
    rintro l pre x rest a1 S W hxs ⟨⟨a, c, h5, h3, hO, hB, hS, hne⟩, ha⟩ hin hlt
    simp only at ha h5 hO hS hne
    subst ha
    have c5 := h5.cell 0
    have f5 := h5.frozen 0
    have c3 := h3.cell 0
    simp only [List.getElem?_cons_zero] at c5 c3
    obtain ⟨i0, hi0, hz0, hz1', hz2⟩ := info_parts u32Info
    have hpl : pre.length + 1 ≤ 1000000 := by rw [hxs] at hl; simp at hl; omega
    gi_wp2_with (gi_at_builtin; refine wpListIn_append_own_at _ rfl (.tmp 12) (.tmp 14) 51 rfl w.heap.size 32 i0 _ 1 4 Try.underlying51 hi0 hz0 hz1' hz2 rfl (by decide) (.slice a pre.length c) pre.length (u32s pre) rfl (hO.alloc _) ⟨W.heap.size, 0, none⟩ 1 1 [.int .u32 (x : Int)] rfl rfl (by exact Mem.news_new W _ [_]) (by simp [Value.oneCell']) (by unfold maxLen; omega) (by omega) (by have := hB.size; simp; omega) ?_; intro v' w1 hown' hgrow _ hat; obtain ⟨g', cap', rfl⟩ := ownsRow_succ hown'; have h51 := (h5.alloc (.cells #[.int .u32 (x : Int)] 32)).grown hgrow (own_ne hO h5 (by decide)); have h31 := (h3.alloc (.cells #[.int .u32 (x : Int)] 32)).grown hgrow (own_ne hO h3 (by decide)); have c51 := h51.cell 0; have f51 := h51.frozen 0; have c31 := h31.cell 0; simp only [List.getElem?_cons_zero] at c51 c31; clear c5 f5 c3)
    all_goals
      obtain ⟨t1, t2, t3, t4, t5, t6, t7⟩ := told_grow w W w1 (w.heap.size + 1) w.heap.size most pre x S a c g' cap' (.cells #[.int .u32 (x : Int)] 32) hS hin hO h51 h31 hown' hgrow hat hB (by omega)
      clear hgrow hown' h51 h31 hat c51 f51 c31
    · have ht : ((pre.length : Int) + 1 == most) = true := by assumption
      rw [beq_iff_eq] at ht
      exact ⟨_, t1, t2, rfl, by simp, by simp; omega, some ⟨g', 0, none⟩, cap', t3, t5, t6, t7⟩
    · have ht : ((pre.length : Int) + 1 == most) = false := by assumption
      rw [beq_eq_false_iff_ne] at ht
      exact ⟨_, t1, t2, some ⟨g', 0, none⟩, cap', t3, t4, t5, t6, t7, fun h => by have := hne h; simp; omega⟩
  case done =>
    rintro D S' W' hD hnD hf hin ⟨a, c, h5, h3, hO, hB, hS, hne⟩ hDD
    have c5 := h5.cell 0
    simp only [List.getElem?_cons_zero] at c5
    gi_wp2
    refine ⟨by simp, .inl ⟨_, _, rfl, run_takeDeferred hDD, ?_⟩⟩
    refine ⟨_, results_tmp rfl _ _ _, Value.slice a xs.length c, rfl, ?_, ?_⟩
    · have hcut : cut most xs = xs := by
        unfold cut
        split
        · rename_i h1; have := hne h1; exact List.take_of_length_le (by omega)
        · rfl
      rw [hcut]
      exact owns_keeps hO (keeps_putObj W' D _) (fun k hk e => hnD (e ▸ (hS k).2 (.inr hk)))
    · exact (Keeps.of_below0 hB).then (keeps_putObj W' D _) (fun i hi e => by omega)
  case stop =>
    rintro D c0 pre S' W' hD hnD hf hin hpre ⟨rfl, hne, hm, a, c, h5, hO, hB, hS⟩ hDD
    have c5 := h5.cell 0
    simp only [List.getElem?_cons_zero] at c5
    gi_wp2
    refine ⟨by simp, .inl ⟨_, _, rfl, run_takeDeferred hDD, ?_⟩⟩
    refine ⟨_, results_tmp rfl _ _ _, Value.slice a pre.length c, rfl, ?_, ?_⟩
    · obtain ⟨rest, rfl⟩ := hpre
      rw [cut_len most pre rest hm hne]
      exact owns_keeps hO (keeps_putObj W' D _) (fun k hk e => hnD (e ▸ (hS k).2 (.inr hk)))
    · exact (Keeps.of_below0 hB).then (keeps_putObj W' D _) (fun i hi e => by omega)
end Tree
end Go.Proofs.Ytndghakagogmcaa
