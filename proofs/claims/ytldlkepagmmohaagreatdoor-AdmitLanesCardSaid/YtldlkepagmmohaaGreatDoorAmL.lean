/-
  AmL: the keys of a map of one entry, collected and sorted.
-/
import Derived.Test.YtldlkepagmmohaaGreatDoorAmK
namespace Go.Proofs.YtldlkepagmmohaaGreatDoor
open Go.RowKit
set_option linter.unusedVariables false
set_option linter.unusedSimpArgs false
attribute [local go_sem] Oper.semAt_some
namespace Am
open Mem
theorem insertion1 (a : Option Addr) (n c : Nat) (hn : n ≤ 1) (w : World) : Calls Tryz.prog 106 #[.slice a n c, .int .i64 0, .int .i64 (n : Int)] w fun e w' => (∃ v, e = .returned v) ∧ w = w' := by
  have h1 : ¬ (1 : Int) < (n : Int) := by omega
  refine (callsIn_wide (n := 9)).1 ?_
  refine callsIn_of_wp Tryz.func106 rfl trivial ?_ rfl
  simp only [Tryz.ntmps106, List.size_toArray, List.length_cons, List.length_nil, Nat.reduceAdd, Nat.reduceSub, Array.replicate_succ, Array.replicate_zero, List.push_toArray, List.append_toArray, List.nil_append, List.cons_append]
  gi_wp2
  refine wpIn_loop_rounds 1 ?_
  rw [roundsIn_succ]
  gi_wp2
  go_end0
  exact ⟨⟨_, rfl⟩, rfl⟩
theorem pdq1 (a : Option Addr) (n c : Nat) (hn : n ≤ 1) (l : Value) (w : World) : Calls Tryz.prog 68 #[.slice a n c, .int .i64 0, .int .i64 (n : Int), l] w fun e w' => (∃ v, e = .returned v) ∧ w = w' := by
  have h1 : (n : Int) ≤ 12 := by omega
  have h2 : IntKind.i64.wrap (n : Int) = (n : Int) := IntWalk.i64_in _ (by omega)
  refine (callsIn_wide (n := 9)).1 ?_
  refine callsIn_of_wp Tryz.func68 rfl trivial ?_ rfl
  simp only [Tryz.ntmps68, List.size_toArray, List.length_cons, List.length_nil, Nat.reduceAdd, Nat.reduceSub, Array.replicate_succ, Array.replicate_zero, List.push_toArray, List.append_toArray, List.nil_append, List.cons_append]
  gi_wp2
  refine wpIn_loop_rounds 1 ?_
  rw [roundsIn_succ]
  gi_wp2_with (refine ⟨trivial, ?_⟩; gi_at_call 106; refine (callsIn_wide.2 (insertion1 _ _ _ hn _)).mono ?_; rintro e w1 ⟨⟨v, rfl⟩, rfl⟩)
  refine bodyPost_ret (results_none rfl _ _ _) rfl ?_
  exact ⟨⟨_, rfl⟩, rfl⟩
set_option maxRecDepth 1000000 in
set_option maxHeartbeats 4000000 in
theorem len64_yes (n : Int) (h0 : 0 ≤ n) (h : n ≤ 1) (w : World) : Calls Tryz.prog 116 #[.int .u64 n] w fun e w' => (∃ k, e = .returned (.int .i64 k)) ∧ w = w' := by
  rcases (by omega : n = 0 ∨ n = 1) with rfl | rfl
  all_goals
    go_enter Tryz.func116, Tryz.ntmps116
    go_wp2
    go_ret
    exact ⟨⟨_, rfl⟩, rfl⟩
theorem len_yes (n : Int) (h0 : 0 ≤ n) (h : n ≤ 1) (w : World) : Calls Tryz.prog 69 #[.int .u64 n] w fun e w' => (∃ k, e = .returned (.int .i64 k)) ∧ w = w' := by
  have hw : IntKind.u64.wrap n = n := IntWalk.u64_in _ (by omega)
  go_enter Tryz.func69, Tryz.ntmps69
  go_wp2_with (go_at_call 116; refine (len64_yes _ h0 h _).mono ?_; rintro e w1 ⟨⟨k, rfl⟩, rfl⟩)
  go_ret
  exact ⟨⟨_, rfl⟩, rfl⟩
theorem sort1 (a : Option Addr) (n c : Nat) (hn : n ≤ 1) (w : World) : Calls Tryz.prog 43 #[.slice a n c] w fun e w' => (∃ v, e = .returned v) ∧ w = w' := by
  have hw : IntKind.u64.wrap (n : Int) = (n : Int) := IntWalk.u64_in _ (by omega)
  have h2 : IntKind.i64.wrap (n : Int) = (n : Int) := IntWalk.i64_in _ (by omega)
  go_enter Tryz.func43, Tryz.ntmps43
  go_wp2_with (first
    | (go_at_call 69; refine (len_yes _ (by omega) (by omega) _).mono ?_; rintro e w1 ⟨⟨k, rfl⟩, rfl⟩)
    | (go_at_call 68; refine (pdq1 _ _ _ hn _ _).mono ?_; rintro e w1 ⟨⟨v, rfl⟩, rfl⟩))
  first
    | (go_end0; exact ⟨⟨_, rfl⟩, rfl⟩)
    | trace_state
theorem u32Info : (Tryz.prog.info? 25).map (fun i => (i.zero, i.size, i.bytes)) = some (some (.int .u32 0), 1, 4) := by kernel_rfl
def u32s (xs : List Nat) : List Value := xs.map fun x => .int .u32 ((x : Nat) : Int)
def WithAct {α : Type} (I : List α → (Nat → Prop) → World → Prop) (f : α → Act) (s : List α × α × Act) (S : Nat → Prop) (W : World) : Prop := I s.1 S W ∧ s.2.2 = f s.2.1
theorem WithAct.stab {α : Type} {I : List α → (Nat → Prop) → World → Prop} {b : Nat} (f : α → Act) (h : Stab b I) : Stab b (WithAct I f) :=
  fun s S T W W' hj hi hk hd ht => ⟨h s.1 S T W W' hj.1 hi hk hd ht, hj.2⟩
/-- the state of the collection between two rounds -/
def ColI (w : World) (B5 : Nat) (pre : List Nat) (S : Nat → Prop) (W : World) : Prop :=
  ∃ a c, Blk W B5 62 [.slice a pre.length c] ∧ W.ownsRow w.heap.size 25 1 (.slice a pre.length c) pre.length (u32s pre) ∧ Below w.heap.size w W ∧
    (∀ k, S k ↔ k = B5 ∨ (Value.slice a pre.length c).ownBlock = some k)
theorem col_stab (w : World) (B5 : Nat) (b : Nat) (hb : w.heap.size ≤ b) : Stab b (ColI w B5) := by
  intro pre S T W W' ⟨a, c, h1, h3', h4, h5⟩ hin hk hd ht
  refine ⟨a, c, h1.keeps hk (hd _ ((h5 _).2 (.inl rfl))), owns_keeps h3' hk (fun k hk' => hd _ ((h5 _).2 (.inr hk'))), h4.trans ⟨hk.os, hk.tape, hk.output, hk.size, fun k hk' => ?_⟩, h5⟩
  exact hk.block k (by have := h4.size; omega) (fun h => by have := ht _ h; omega)
theorem col_grow (w W w1 : World) (B5 : Nat) (pre : List Nat) (x : Nat) (S : Nat → Prop) (a : Option Addr) (c g cap : Nat) (o : Obj)
    (hS : ∀ k, S k ↔ k = B5 ∨ (Value.slice a pre.length c).ownBlock = some k) (hin : Inb S W) (hO : W.ownsRow w.heap.size 25 1 (.slice a pre.length c) pre.length (u32s pre))
    (h5 : Blk w1 B5 62 [.slice a pre.length c])
    (hown : w1.ownsRow w.heap.size 25 1 (.slice (some ⟨g, 0, none⟩) (pre.length + 1) cap) (pre.length + 1) (u32s pre ++ [.int .u32 (x : Int)]))
    (hgrow : (W.alloc o).grownBy w1 (Value.slice a pre.length c).ownBlock)
    (hat : (Value.slice (some ⟨g, 0, none⟩) (pre.length + 1) cap).ownBlock = (Value.slice a pre.length c).ownBlock ∨ (Value.slice (some ⟨g, 0, none⟩) (pre.length + 1) cap).ownBlock = some (W.alloc o).heap.size)
    (hB : Below w.heap.size w W) (hb5 : w.heap.size ≤ B5) :
    Foot S (fun k => k = B5 ∨ k = g) W (w1.setCell ⟨B5, 0, none⟩ (.slice (some ⟨g, 0, none⟩) (pre.length + 1) cap)) ∧
    Inb (fun k => k = B5 ∨ k = g) (w1.setCell ⟨B5, 0, none⟩ (.slice (some ⟨g, 0, none⟩) (pre.length + 1) cap)) ∧
    Blk (w1.setCell ⟨B5, 0, none⟩ (.slice (some ⟨g, 0, none⟩) (pre.length + 1) cap)) B5 62 [.slice (some ⟨g, 0, none⟩) (pre ++ [x]).length cap] ∧
    (w1.setCell ⟨B5, 0, none⟩ (.slice (some ⟨g, 0, none⟩) (pre.length + 1) cap)).ownsRow w.heap.size 25 1 (.slice (some ⟨g, 0, none⟩) (pre ++ [x]).length cap) (pre ++ [x]).length (u32s (pre ++ [x])) ∧
    Below w.heap.size w (w1.setCell ⟨B5, 0, none⟩ (.slice (some ⟨g, 0, none⟩) (pre.length + 1) cap)) ∧
    (∀ k, (k = B5 ∨ k = g) ↔ k = B5 ∨ (Value.slice (some ⟨g, 0, none⟩) (pre ++ [x]).length cap).ownBlock = some k) := by
  have hn5 : some B5 ≠ (Value.slice (some ⟨g, 0, none⟩) (pre.length + 1) cap).ownBlock := own_ne hown h5 (by decide)
  have hk : Keeps S W w1 := ((Keeps.refl S W).alloc o).grown hgrow (fun k hk e => (hS k).2 (.inr e))
  have hgl : g < w1.heap.size := (hown.lt g rfl).2
  have e1 : (pre ++ [x]).length = pre.length + 1 := by simp
  have e2 : u32s (pre ++ [x]) = u32s pre ++ [.int .u32 (x : Int)] := by simp [u32s]
  refine ⟨⟨hk.setCell (p := ⟨B5, 0, none⟩) (fun _ => (hS B5).2 (.inl rfl)) _, fun k h => ?_⟩, ?_, ?_, ?_, ?_, ?_⟩
  · rcases h with rfl | rfl
    · exact .inl ((hS _).2 (.inl rfl))
    · rcases hat with h | h
      · exact .inl ((hS _).2 (.inr h.symm))
      · simp [Value.ownBlock] at h
        exact .inr (by omega)
  · intro k h
    have := h5.lt
    rcases h with rfl | rfl <;> simpa [World.setCell]
  · rw [e1]; simpa using h5.set_ 0 (.slice (some ⟨g, 0, none⟩) (pre.length + 1) cap)
  · rw [e1, e2]; exact owns_setCell hown (p := ⟨B5, 0, none⟩) hn5.symm _
  · refine Below.setCell ?_ (p := ⟨B5, 0, none⟩) hb5 _
    exact (hB.alloc hB.size o).grown hgrow (by have := hB.size; simp; omega) (fun k hk => (hO.lt k hk).1)
  · intro k
    simp [Value.ownBlock, eq_comm]
/-- a fresh slice of numbers -/
def Fresh (w : World) (xs : List Nat) (e : Ending) (w' : World) : Prop :=
  ∃ a c, e = .returned (.slice a xs.length c) ∧ w'.ownsRow w.heap.size 25 1 (.slice a xs.length c) xs.length (u32s xs) ∧ Keeps (fun _ => False) w w'
set_option maxHeartbeats 4000000 in
set_option maxRecDepth 100000 in
theorem appseq_t (gf : Nat) (lb : Array Value) (xs : List Nat) (w : World) (A : (Nat → Prop) → Prop) (hl : xs.length ≤ 1000000)
    (eg : ∀ args w, (callFunc gf args).run Tryz.prog w = .ok (.enter gf args) w)
    (hg : ∀ W1, Keeps (fun _ => False) w W1 → Gives Tryz.prog 8 gf lb (fun x : Nat => #[.int .u32 (x : Int)]) xs W1 A) (hA : ∀ S, (∀ k, S k → w.heap.size ≤ k) → A S) :
    Calls Tryz.prog 67 #[.slice none 0 0, .func (.func gf) #[] lb] w (Fresh w xs) := by
  refine (callsIn_wide (n := 9)).1 ?_
  refine callsIn_of_wp_marks Tryz.func67 rfl trivial ?_ rfl
  simp only [Tryz.ntmps67, List.size_toArray, List.length_cons, List.length_nil, Nat.reduceAdd, Nat.reduceSub, Array.replicate_succ, Array.replicate_zero, List.push_toArray, List.append_toArray, List.nil_append, List.cons_append]
  have HG := Lib.hid hg; clear hg
  have HA := Lib.hid hA; clear hA
  gi_wp2
  have hz1 : (w.alloc (.cells #[.slice none 0 0] 62)).heap.size = w.heap.size + 1 := by simp
  refine wpIn_range (gf := gf) (lb := lb) (encs := fun x : Nat => #[.int .u32 (x : Int)]) (xs := xs) (A := A) rfl eg
    (fun W1 hk => HG.out W1 (((Keeps.refl _ w).alloc _).trans hk)) (fun _ => rfl)
    (ColI w w.heap.size) (fun _ _ _ _ => False) (col_stab w _ _ (by omega)) (fun _ _ _ _ _ _ h => h.elim)
    (fun k => k = w.heap.size) (fun k hk => by rw [hz1]; omega) ⟨none, 0, Blk.new w _ _, World.ownsRow_nil _ _ _ _, (Below.refl _ w).alloc (Nat.le_refl _) _, ?i3⟩
    (fun S hS => HA.out S (fun k hk => by rcases hS k hk with h | h <;> omega))
    (WithAct (ColI w w.heap.size) (fun x => ⟨#[.slice none 0 0, .func (.func gf) #[] lb, .pointer (some ⟨w.heap.size, 0, none⟩), undef, .slice none 0 0, .int .u32 (x : Int), .func (.func gf) #[] lb, .int .u32 (x : Int), undef, undef, undef, undef, undef], []⟩))
    (WithAct.stab _ (col_stab w _ _ (by omega))) ?assign ?body ?done ?stop
  case i3 => intro k; simp [Value.ownBlock]
  case assign =>
    intro l pre x rest S W hxs hI hin hlt
    gi_wp2
    exact ⟨S, Foot.refl _ _, hin, hI, rfl⟩
  case body =>
    rintro l pre x rest a1 S W hxs ⟨⟨a, c, h5, hO, hB, hS⟩, ha⟩ hin hlt
    simp only at ha h5 hO hS
    subst ha
    have c5 := h5.cell 0
    have f5 := h5.frozen 0
    simp only [List.getElem?_cons_zero] at c5
    obtain ⟨i0, hi0, he0⟩ := Option.map_eq_some_iff.1 u32Info
    simp only [Prod.mk.injEq] at he0
    obtain ⟨hz0, hz1', hz2⟩ := he0
    have hpl : pre.length + 1 ≤ 1000000 := by rw [hxs] at hl; simp at hl; omega
    gi_wp2_with (gi_at_builtin; refine wpListIn_append_own_at _ rfl (.tmp 8) (.tmp 10) 62 rfl w.heap.size 25 i0 _ 1 4 Tryz.underlying62 hi0 hz0 hz1' hz2 rfl (by decide) (.slice a pre.length c) pre.length (u32s pre) rfl (hO.alloc _) ⟨W.heap.size, 0, none⟩ 1 1 [.int .u32 (x : Int)] rfl rfl (by exact Mem.news_new W _ [_]) (by simp [Value.oneCell']) (by unfold maxLen; omega) (by omega) (by have := hB.size; simp; omega) ?_; intro v' w1 hown' hgrow _ hat; obtain ⟨g', cap', rfl⟩ := ownsRow_succ hown'; have h51 := (h5.alloc (.cells #[.int .u32 (x : Int)] 25)).grown hgrow (own_ne hO h5 (by decide)); have c51 := h51.cell 0; have f51 := h51.frozen 0; simp only [List.getElem?_cons_zero] at c51; clear c5 f5)
    obtain ⟨t1, t2, t3, t5, t6, t7⟩ := col_grow w W w1 w.heap.size pre x S a c g' cap' (.cells #[.int .u32 (x : Int)] 25) hS hin hO h51 hown' hgrow hat hB (by omega)
    exact ⟨_, t1, t2, some ⟨g', 0, none⟩, cap', t3, t5, t6, t7⟩
  case done =>
    rintro D S' W' hD hnD hf hin ⟨a, c, h5, hO, hB, hS⟩ hDD
    have c5 := h5.cell 0
    simp only [List.getElem?_cons_zero] at c5
    gi_wp2
    refine ⟨by simp, .inl ⟨_, _, rfl, run_takeDeferred hDD, ?_⟩⟩
    refine ⟨_, results_tmp rfl _ _ _, a, c, rfl, ?_, ?_⟩
    · exact owns_keeps hO (keeps_putObj W' D _) (fun k hk e => hnD (e ▸ (hS k).2 (.inr hk)))
    · exact (Keeps.of_below0 hB).then (keeps_putObj W' D _) (fun i hi e => by omega)
  case stop =>
    rintro D c0 pre S' W' hD hnD hf hin hpre h
    exact h.elim
end Am
end Go.Proofs.YtldlkepagmmohaaGreatDoor
