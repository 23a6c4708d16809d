/-
MwD: an update is taken in: what is kept, a lane, the wait.
-/
import Derived.Test.YtdaindihobfokaaGreatDoorZbkMwC
import Derived.Test.YtdaindihobfokaaGreatDoorZbnAppW
import Derived.Test.YtdaindihobfokaaGreatDoorZadAppAppGAppH
namespace Go.Proofs.YtdaindihobfokaaGreatDoor
open Go.RowKit
set_option linter.unusedVariables false
set_option linter.unusedSimpArgs false
set_option linter.ambiguousOpen false
attribute [local go_sem] Oper.semAt_some
namespace Mw
open Mem Dr
/-- an append on no slice yet -/
theorem app_nil {P : Program} {T e : TypeId} {α : Type} {f : α → List Value} {size : Nat} (hE : ElW P T e f size) {o : Oper} {a : Act} {w : World} {K : Act → World → Prop} {Q : Exit → Act → World → Prop} (s x : Operand)
    (ho : o.op = .call { callee := .builtin .append, args := #[s, x], argTypes := #[T, T] }) (hs : a.eval s = .slice none 0 0) (p : α) (nb : Nat) (hx : a.eval x = .slice (some ⟨nb, 0, none⟩) 1 1) (hnew : ∀ j u, (f p)[j]? = some u → w.cell? ((⟨nb, 0, none⟩ : Addr).add j) = some u)
    (h : ∀ g cap w', (∀ j u, (f p)[j]? = some u → w'.cell? ⟨g, j, none⟩ = some u) → w.heap.size ≤ g → Keeps (fun _ => False) w w' → K (a.put o.dst (.slice (some ⟨g, 0, none⟩) 1 cap)) w') : Oper.wp P o a w K Q := by
  obtain ⟨i, z, hi, hz, h1, h2, h3⟩ := hE.info
  refine step_app_g (by_ := i.bytes) hE.row ⟨i, z, hi, hz, h1, rfl, h3⟩ hE.pos hE.len hE.one s x ho w.heap.size [] 0 none 0 hs (World.ownsRow_nil _ _ _ _) p nb hx hnew (by decide) (by omega) (by omega) (Nat.le_refl _) ?_
  intro g cap w' hown hgrow hat
  have hg : w.heap.size ≤ g := by
    rcases hat with h | h
    · cases h
    · omega
  refine h g cap w' (fun j u hj => ?_) hg ((Keeps.refl (fun _ => False) w).grown hgrow (fun k _ e => by cases e))
  have := hown.cells (g := g) rfl j u (by simpa using hj)
  rwa [Addr.add_mid, Nat.zero_add] at this
section
variable {mb kb fb tb lb ob xb sb kn on : Nat} {reps logs plcs l0 : Value} {ks os : Array MapEntry}
set_option maxHeartbeats 2000000 in
set_option maxRecDepth 20000 in
theorem kept_t (w : World) (h : MS w mb kb fb tb lb ob xb sb reps logs plcs (.slice none 0 0) (#[]) (#[]) 0 0) : Calls Tryz.prog 57 #[.pointer (some ⟨mb, 0, none⟩), .map (some ob), .int .u8 1] w fun e w' => ∃ r, e = .returned (.map (some r)) ∧ Mp w' r #[] 0 ∧ Keeps (fun _ => False) w w' := by
  have hmm := @run_makeMap Tryz.prog
  have hm := h.o.alloc (.map #[] 0)
  have hrg := run_range_map (P := Tryz.prog) (w.alloc (.map #[] 0)) 85 _ _ ob #[] 0 Tryz.underlying85 hm
  have hm2 := hm.alloc (.mapIter (some ob) 0 #[] 0)
  have hnx : ∀ ty, (Instr.next (.pointer (some ⟨w.heap.size + 1, 0, none⟩)) false ty).run Tryz.prog ((w.alloc (.map #[] 0)).alloc (.mapIter (some ob) 0 #[] 0)) = .ok (.tuple #[.bool false]) ((w.alloc (.map #[] 0)).alloc (.mapIter (some ob) 0 #[] 0)) := fun ty => by
    have hr : (((w.alloc (.map #[] 0)).alloc (.mapIter (some ob) 0 #[] 0))).heap[w.heap.size + 1]? = some (.mapIter (some ob) 0 #[] 0) := by
      have := heap_alloc_new (w.alloc (.map #[] 0)) (.mapIter (some ob) 0 #[] 0)
      rwa [World.size_alloc] at this
    rcases run_next_at (P := Tryz.prog) ((w.alloc (.map #[] 0)).alloc (.mapIter (some ob) 0 #[] 0)) ty (w.heap.size + 1) ob 0 0 #[] #[] 0 hr hm2 (by simp) (Nat.le_refl _) with h | ⟨e, he, _⟩
    · exact h.2
    · simp [leftOf] at he
  have HK := Lib.hid (show Keeps (fun _ => False) w ((w.alloc (.map #[] 0)).alloc (.mapIter (some ob) 0 #[] 0)) from by (repeat (first | exact Keeps.refl _ _ | assumption | refine Keeps.alloc ?_ _ | refine Keeps.drew ?_)))
  have hs : ((w.alloc (.map #[] 0))).heap.size = w.heap.size + 1 := World.size_alloc _ _
  have c0 := (h.m.keeps HK.out (fun h => h)).cell
  have c1 := (h.l.keeps HK.out (fun h => h)).cell
  have HM := Lib.hid ((Mp.new w #[] 0).alloc (.mapIter (some ob) 0 #[] 0))
  clear h hm hm2
  go_enter Tryz.func57, Tryz.ntmps57
  go_wp2
  refine wp_loop_rounds 1 ?_
  rw [rounds_succ]
  go_wp2
  refine wp_loop_rounds 3 ?_
  rw [rounds_succ]
  go_wp2
  refine wp_loop_rounds 1 ?_
  rw [rounds_succ]
  go_wp2
  rw [rounds_succ]
  go_wp2
  refine wp_loop_rounds 1 ?_
  rw [rounds_succ]
  go_wp2
  rw [rounds_succ]
  go_wp2
  go_ret
  exact ⟨_, rfl, HM.out, HK.out⟩
set_option maxHeartbeats 2000000 in
set_option maxRecDepth 20000 in
theorem full_t (w : World) (h : MS w mb kb fb tb lb ob xb sb reps logs plcs (.slice none 0 0) (ks) (os) kn on) : Calls Tryz.prog 58 #[.pointer (some ⟨mb, 0, none⟩), .int .i64 0] w fun e w' => e = .returned (.bool false) ∧ Keeps (fun _ => False) w w' := by
  have HS := Lib.hid (show ∀ W', Keeps (fun _ => False) w W' → ((∀ i : Nat, W'.cell? ⟨mb, i, none⟩ = (modL kb fb tb lb ob xb sb reps logs plcs : List Value)[i]?) ∧ (∀ i : Nat, W'.cell? ⟨lb, i, none⟩ = ([.slice none 0 0, .slice none 0 0] : List Value)[i]?)) from fun W' k => ⟨(h.kd k).m.cell, (h.kd k).l.cell⟩)
  clear h
  go_enter Tryz.func58, Tryz.ntmps58
  go_wp2
  go_region_held3 (fun W => ((∀ i : Nat, W.cell? ⟨mb, i, none⟩ = (modL kb fb tb lb ob xb sb reps logs plcs : List Value)[i]?) ∧ (∀ i : Nat, W.cell? ⟨lb, i, none⟩ = ([.slice none 0 0, .slice none 0 0] : List Value)[i]?))) (first | with_reducible assumption | exact HS.out _ (by (repeat (first | exact Keeps.refl _ _ | assumption | refine Keeps.alloc ?_ _ | refine Keeps.drew ?_)))) (first | fail)
  go_wp2
  go_ret
  exact ⟨rfl, by (repeat (first | exact Keeps.refl _ _ | assumption | refine Keeps.alloc ?_ _ | refine Keeps.drew ?_))⟩
abbrev waitL : List Value := [.int .u8 1, .int .u32 3, .int .u32 1, .int .u32 0, .int .i32 5, .int .i32 0, .int .u32 0, .int .u8 0, .slice none 0 0, .slice none 0 0, .int .i32 0, .string ⟨#[]⟩, .int .i64 0, .int .u32 0, .bool false]
/-- a reply's cells -/
abbrev repL (c r : Int) : List Value := [.int .u8 c, .int .i64 r, .int .u32 0, .int .i64 0, .int .i64 0, .int .i64 0, .int .i64 0, .int .i64 0]
theorem rep_info (c r : Int) : (Tryz.prog.info? 95).map (·.size) = some (repL c r).toArray.size := by kernel_rfl
def ptf : Nat → List Value := fun b => [.pointer (some ⟨b, 0, none⟩)]
theorem pInfo : (Tryz.prog.info? 123).map (fun i => (i.zero.map (·.cells.size), i.size, decide (i.bytes ≤ 1000))) = some (some 1, 1, true) := by kernel_rfl
theorem elP : ElW Tryz.prog 111 123 ptf 1 := by
  obtain ⟨i, hi, he⟩ := Option.map_eq_some_iff.1 pInfo
  simp only [Prod.mk.injEq] at he
  obtain ⟨h1, h2, h3⟩ := he
  obtain ⟨z, hz, hz2⟩ := Option.map_eq_some_iff.1 h1
  exact ⟨Tryz.underlying111, ⟨i, z, hi, hz, h2, of_decide_eq_true h3, hz2⟩, by decide, fun _ => rfl, fun x u hu => by
    simp only [ptf, List.mem_cons, List.not_mem_nil, or_false] at hu
    rcases hu with rfl; rfl⟩
set_option maxHeartbeats 4000000 in
set_option maxRecDepth 20000 in
theorem wait_t (qb : Nat) (w : World) (h : MS w mb kb fb tb lb ob xb sb reps logs plcs (.slice none 0 0) (ks) (os) kn on) : Calls Tryz.prog 59 #[.pointer (some ⟨mb, 0, none⟩), .int .i64 0, .pointer (some ⟨qb, 0, none⟩)] w fun e w' => ∃ g c, e = .returned (.agg (repL 0 0).toArray) ∧ Keeps (fun k => k = lb) w w' ∧ MS w' mb kb fb tb lb ob xb sb reps logs plcs (.slice (some ⟨g, 0, none⟩) 1 c) (ks) (os) kn on ∧ w'.cell? ⟨g, 0, none⟩ = some (.pointer (some ⟨qb, 0, none⟩)) ∧ w.heap.size ≤ g := by
  have HS := Lib.hid (show ∀ W', Keeps (fun _ => False) w W' → ((∀ i : Nat, W'.cell? ⟨mb, i, none⟩ = (modL kb fb tb lb ob xb sb reps logs plcs : List Value)[i]?) ∧ (∀ i : Nat, W'.cell? ⟨lb, i, none⟩ = ([.slice none 0 0, .slice none 0 0] : List Value)[i]?)) from fun W' k => ⟨(h.kd k).m.cell, (h.kd k).l.cell⟩)
  have HM := Lib.hid h
  clear h
  go_enter Tryz.func59, Tryz.ntmps59
  go_wp2
  obtain ⟨B6, hB6⟩ : ∃ B, B = w.heap.size := ⟨_, rfl⟩
  obtain ⟨w0, hw0⟩ : ∃ w0, w0 = w.alloc (.cells (repL 0 0).toArray 95) := ⟨_, rfl⟩
  have K0 := Lib.hid (show Keeps (fun _ => False) w w0 from by rw [hw0]; (repeat (first | exact Keeps.refl _ _ | assumption | refine Keeps.alloc ?_ _ | refine Keeps.drew ?_)))
  have HB6 := Lib.hid (show Blk w0 B6 95 (repL 0 0) from by rw [hw0, hB6]; exact Blk.new w _ _)
  have HQ := Lib.hid (show B6 ≠ lb ∧ w.heap.size ≤ B6 from ⟨fun e => by have := HM.out.l.lt; omega, by omega⟩)
  (try rw [← hw0])
  (try rw [← hB6])
  clear hw0 hB6
  apply join_k
  refine wp_region_held_drew (S := fun W => ∀ i : Nat, W.cell? ⟨mb, i, none⟩ = (modL kb fb tb lb ob xb sb reps logs plcs : List Value)[i]?) (by kernel_rfl) (HS.out _ K0.out.drew).1 (fun hS0 => ?_)
  refine tK 0 hS0 ?_
  refine tK 1 hS0 ?_
  refine tK 2 hS0 ?_
  refine tK 3 hS0 ?_
  refine tK 4 hS0 ?_
  refine tK 5 hS0 ?_
  refine tK 6 hS0 ?_
  refine tK 7 hS0 ?_
  refine tK 8 hS0 ?_
  refine tK 9 hS0 ?_
  refine tK 10 hS0 ?_
  refine tK 12 hS0 ?_
  refine anyH_two 11 13 (by kernel_rfl) rfl (by rfl) rfl (by rfl) (fun K hK => ?_) (fun K hK => ?_)
  · have q := (HS.out w0.drew K0.out.drew).2
    go_simp
    refine hK _ _ hS0 ?_
    clear hK K q
    try simp only [y0, y1, y2, y3, y4, y5, y6]
    refine anyH_one 13 (by kernel_rfl) rfl (by rfl) (fun K hK => ?_)
    go_simp
    refine hK _ _ (HS.out _ (K0.out.drew.alloc _)).1 ?_
    clear hK K
    try simp only [y0, y1, y2, y3, y4, y5, y6]
    refine anyH_one 14 (by kernel_rfl) rfl (by rfl) (fun K hK => ?_)
    refine app_nil elP (.tmp 18) (.tmp 20) rfl rfl qb w0.heap.size rfl (by exact Mem.news_new (w0.drew) _ (ptf qb)) ?_
    intro g lc w5 hg hfr hk5
    have H5 := Lib.hid (HM.out.kd (((K0.out.drew.alloc (.cells #[.pointer (some ⟨qb, 0, none⟩)] 123))).trans hk5))
    have G5 := Lib.hid (And.intro (hg 0 _ rfl) (And.intro (Nat.le_trans (Nat.le_trans K0.out.size (Nat.le_trans (Nat.le_of_eq rfl) (((Keeps.refl (fun _ => False) w0).drew.alloc (.cells #[.pointer (some ⟨qb, 0, none⟩)] 123))).size)) hfr) (Nat.lt_of_lt_of_le ((HB6.out.drew.alloc (.cells #[.pointer (some ⟨qb, 0, none⟩)] 123))).lt hfr)))
    have K5 := Lib.hid (((K0.out.drew.alloc (.cells #[.pointer (some ⟨qb, 0, none⟩)] 123))).trans hk5)
    have B5 := Lib.hid (((HB6.out.drew.alloc (.cells #[.pointer (some ⟨qb, 0, none⟩)] 123))).keeps hk5 (fun h => h))
    clear hg hfr hk5
    refine hK _ _ H5.out.m.cell ?_
    clear hK K
    try simp only [y0, y1, y2, y3, y4, y5, y6]
    refine tK 15 H5.out.m.cell ?_
    refine anyH_one 16 (by kernel_rfl) rfl (by rfl) (fun K hK => ?_)
    have l0c := H5.out.l.cell
    have l0f := H5.out.l.frozen
    go_simp
    clear l0c l0f
    refine hK _ _ ((H5.out.m.far (p := ⟨lb, 0, none⟩) H5.out.ml _).cell) ?_
    clear hK K
    try simp only [y0, y1, y2, y3, y4, y5, y6]
    refine wpAnyH_done (by kernel_rfl) ?_ _
    have Z6 := Lib.hid (B5.out.far (p := ⟨lb, 0, none⟩) HQ.out.1 (.slice (some ⟨g, 0, none⟩) 1 lc))
    go_wp2_with (with_reducible refine wpList_store_blk rfl 95 (.tmp 6) (.tmp 23) rfl _ 0 95 (repL 0 0) (repL 0 0).toArray rfl rfl Z6.out (by simp) (rep_info 0 0) (by simp [Value.oneCell']) ?_; intro w6 hb6 hg6 hs6; have H6 := Lib.hid (And.intro hb6 hg6); clear hb6 hg6 hs6)
    have q := HQ.out
    have z := K5.out.size
    have a1 := HM.out.m.lt
    have a2 := HM.out.l.lt
    have a3 := HM.out.k.lt
    have a4 := HM.out.o.lt
    have a5 := HM.out.x.lt
    have kw : Keeps (fun k => k = lb) w w6 := ((K5.out.mono (T := fun k => k = lb) (fun _ _ h => h.elim)).setCell (p := ⟨lb, 0, none⟩) (fun _ => rfl) (.slice (some ⟨g, 0, none⟩) 1 lc)).grown H6.out.2 (fun k hk e => by cases e; omega)
    have hl6 := (H5.out.l.set_ 0 (.slice (some ⟨g, 0, none⟩) 1 lc)).grown H6.out.2 (fun e => q.1 (by cases e; rfl))
    have gc := (((Keeps.refl (fun k => k = lb ∨ k = B6) w5).setCell (p := ⟨lb, 0, none⟩) (fun _ => .inl rfl) (.slice (some ⟨g, 0, none⟩) 1 lc)).grown H6.out.2 (fun k hk e => by cases e; exact .inr rfl)).cell G5.out.1 (by have := G5.out.2; simp only; omega)
    refine bodyPost_ret (results_cell_row rfl _ _ _ _ _ _ _ rfl (by exact H6.out.1) Tryz.underlying95 rfl (rep_info 0 0)) rfl ?_
    exact ⟨rfl, kw, g, ⟨lc, HM.out.m.keeps kw HM.out.ml, hl6, HM.out.k.keeps kw (Ne.symm HM.out.lk), HM.out.o.keeps kw (Ne.symm HM.out.lo), HM.out.x.keeps kw (Ne.symm HM.out.lx), HM.out.ko, HM.out.kx, HM.out.ox⟩, gc, G5.out.2.1⟩
  · go_simp
    refine hK _ _ (HS.out _ (K0.out.alloc (.cells #[.pointer (some ⟨qb, 0, none⟩)] 123)).drew).1 ?_
    clear hK K
    try simp only [y0, y1, y2, y3, y4, y5, y6]
    refine anyH_one 11 (by kernel_rfl) rfl (by rfl) (fun K hK => ?_)
    have q := (HS.out _ (K0.out.alloc (.cells #[.pointer (some ⟨qb, 0, none⟩)] 123)).drew).2
    go_simp
    refine hK _ _ (HS.out _ (K0.out.alloc (.cells #[.pointer (some ⟨qb, 0, none⟩)] 123)).drew).1 ?_
    clear hK K q
    try simp only [y0, y1, y2, y3, y4, y5, y6]
    refine anyH_one 14 (by kernel_rfl) rfl (by rfl) (fun K hK => ?_)
    refine app_nil elP (.tmp 18) (.tmp 20) rfl rfl qb w0.heap.size rfl (by exact Mem.news_new (w0) _ (ptf qb)) ?_
    intro g lc w5 hg hfr hk5
    have H5 := Lib.hid (HM.out.kd (((K0.out.alloc (.cells #[.pointer (some ⟨qb, 0, none⟩)] 123)).drew).trans hk5))
    have G5 := Lib.hid (And.intro (hg 0 _ rfl) (And.intro (Nat.le_trans (Nat.le_trans K0.out.size (Nat.le_trans (Nat.le_of_eq rfl) (((Keeps.refl (fun _ => False) w0).alloc (.cells #[.pointer (some ⟨qb, 0, none⟩)] 123)).drew).size)) hfr) (Nat.lt_of_lt_of_le ((HB6.out.alloc (.cells #[.pointer (some ⟨qb, 0, none⟩)] 123)).drew).lt hfr)))
    have K5 := Lib.hid (((K0.out.alloc (.cells #[.pointer (some ⟨qb, 0, none⟩)] 123)).drew).trans hk5)
    have B5 := Lib.hid (((HB6.out.alloc (.cells #[.pointer (some ⟨qb, 0, none⟩)] 123)).drew).keeps hk5 (fun h => h))
    clear hg hfr hk5
    refine hK _ _ H5.out.m.cell ?_
    clear hK K
    try simp only [y0, y1, y2, y3, y4, y5, y6]
    refine tK 15 H5.out.m.cell ?_
    refine anyH_one 16 (by kernel_rfl) rfl (by rfl) (fun K hK => ?_)
    have l0c := H5.out.l.cell
    have l0f := H5.out.l.frozen
    go_simp
    clear l0c l0f
    refine hK _ _ ((H5.out.m.far (p := ⟨lb, 0, none⟩) H5.out.ml _).cell) ?_
    clear hK K
    try simp only [y0, y1, y2, y3, y4, y5, y6]
    refine wpAnyH_done (by kernel_rfl) ?_ _
    have Z6 := Lib.hid (B5.out.far (p := ⟨lb, 0, none⟩) HQ.out.1 (.slice (some ⟨g, 0, none⟩) 1 lc))
    go_wp2_with (with_reducible refine wpList_store_blk rfl 95 (.tmp 6) (.tmp 23) rfl _ 0 95 (repL 0 0) (repL 0 0).toArray rfl rfl Z6.out (by simp) (rep_info 0 0) (by simp [Value.oneCell']) ?_; intro w6 hb6 hg6 hs6; have H6 := Lib.hid (And.intro hb6 hg6); clear hb6 hg6 hs6)
    have q := HQ.out
    have z := K5.out.size
    have a1 := HM.out.m.lt
    have a2 := HM.out.l.lt
    have a3 := HM.out.k.lt
    have a4 := HM.out.o.lt
    have a5 := HM.out.x.lt
    have kw : Keeps (fun k => k = lb) w w6 := ((K5.out.mono (T := fun k => k = lb) (fun _ _ h => h.elim)).setCell (p := ⟨lb, 0, none⟩) (fun _ => rfl) (.slice (some ⟨g, 0, none⟩) 1 lc)).grown H6.out.2 (fun k hk e => by cases e; omega)
    have hl6 := (H5.out.l.set_ 0 (.slice (some ⟨g, 0, none⟩) 1 lc)).grown H6.out.2 (fun e => q.1 (by cases e; rfl))
    have gc := (((Keeps.refl (fun k => k = lb ∨ k = B6) w5).setCell (p := ⟨lb, 0, none⟩) (fun _ => .inl rfl) (.slice (some ⟨g, 0, none⟩) 1 lc)).grown H6.out.2 (fun k hk e => by cases e; exact .inr rfl)).cell G5.out.1 (by have := G5.out.2; simp only; omega)
    refine bodyPost_ret (results_cell_row rfl _ _ _ _ _ _ _ rfl (by exact H6.out.1) Tryz.underlying95 rfl (rep_info 0 0)) rfl ?_
    exact ⟨rfl, kw, g, ⟨lc, HM.out.m.keeps kw HM.out.ml, hl6, HM.out.k.keeps kw (Ne.symm HM.out.lk), HM.out.o.keeps kw (Ne.symm HM.out.lo), HM.out.x.keeps kw (Ne.symm HM.out.lx), HM.out.ko, HM.out.kx, HM.out.ox⟩, gc, G5.out.2.1⟩
end
end Mw
end Go.Proofs.YtdaindihobfokaaGreatDoor
