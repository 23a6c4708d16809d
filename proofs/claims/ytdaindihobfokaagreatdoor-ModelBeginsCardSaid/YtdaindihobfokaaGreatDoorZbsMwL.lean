/-
MwL: what a model has come to is told.
-/
import Derived.Test.YtdaindihobfokaaGreatDoorZbrMwK
namespace Go.Proofs.YtdaindihobfokaaGreatDoor
open Go.RowKit
set_option linter.unusedVariables false
set_option linter.unusedSimpArgs false
set_option linter.ambiguousOpen false
attribute [local go_sem] Oper.semAt_some Mb.run_store_float
namespace Mw
open Mem Dr
abbrev plL : List Value := [.int .u32 3, .int .i32 5, .int .i32 0, .slice none 0 0]
def plf : Unit → List Value := fun _ => plL
theorem plInfo : (Tryz.prog.info? 62).map (fun i => (i.zero.map (·.cells.size), i.size, decide (i.bytes ≤ 1000))) = some (some 4, 4, true) := by kernel_rfl
theorem elPl : ElW Tryz.prog 52 62 plf 4 := by
  obtain ⟨i, hi, he⟩ := Option.map_eq_some_iff.1 plInfo
  simp only [Prod.mk.injEq] at he
  obtain ⟨h1, h2, h3⟩ := he
  obtain ⟨z, hz, hz2⟩ := Option.map_eq_some_iff.1 h1
  exact ⟨Tryz.underlying52, ⟨i, z, hi, hz, h2, of_decide_eq_true h3, hz2⟩, by decide, fun _ => rfl, fun x u hu => by
    simp only [plf, List.mem_cons, List.not_mem_nil, or_false] at hu
    rcases hu with rfl | rfl | rfl | rfl <;> rfl⟩
theorem mk1 (W : World) : (Instr.makeSlice 50 (.int .i64 1) (.int .i64 1)).run Tryz.prog W = .ok (.slice (some ⟨W.heap.size, 0, none⟩) 1 1) (W.alloc (.cells #[.slice none 0 0] 22)) := by kernel_rfl
section
variable {mb kb fb tb lb ob xb sb kn oo : Nat} {reps l0 : Value} {ks : Array MapEntry}
set_option maxHeartbeats 4000000 in
set_option maxRecDepth 100000 in
theorem close_t (w : World) (h : MS w mb kb fb tb lb ob xb sb reps (.slice none 0 0) (.slice none 0 0) l0 ks #[⟨.int .u32 3, .pointer (some ⟨oo, 0, none⟩), 0⟩] kn 1) (ho : Blk w oo 128 objL) : Calls Tryz.prog 26 #[.pointer (some ⟨mb, 0, none⟩)] w fun e w' => ∃ lg pb, e = .returned (.tuple #[]) ∧ Keeps (fun k => k = mb) w w' ∧ (∃ pc, Blk w' mb 90 (modL kb fb tb lb ob xb sb reps (.slice (some ⟨lg, 0, none⟩) 1 1) (.slice (some ⟨pb, 0, none⟩) 1 pc))) ∧ (∀ j u, plL[j]? = some u → w'.cell? ⟨pb, j, none⟩ = some u) ∧ w.heap.size ≤ pb := by
  have hmk := mk1
  have HM := Lib.hid (And.intro h ho)
  have cm := fun o => (h.m.alloc o).cell
  have fm := fun o => (h.m.alloc o).frozen
  have cm0 := h.m.cell
  clear h ho
  go_enter Tryz.func26, Tryz.ntmps26
  go_wp2
  clear cm fm cm0 hmk
  obtain ⟨lg, hlg⟩ : ∃ lg, lg = w.heap.size := ⟨_, rfl⟩
  obtain ⟨w1, hw1⟩ : ∃ w1, w1 = (w.alloc (.cells #[(.slice none 0 0)] 22)).setCell ⟨mb, 22, none⟩ (.slice (some ⟨w.heap.size, 0, none⟩) 1 1) := ⟨_, rfl⟩
  have K1 := Lib.hid (show Keeps (fun k => k = mb) w w1 from by rw [hw1]; exact ((Keeps.refl (fun k => k = mb) w).alloc _).setCell (p := ⟨mb, 22, none⟩) (fun _ => rfl) _)
  have HM1 := Lib.hid (show MS w1 mb kb fb tb lb ob xb sb reps (.slice (some ⟨lg, 0, none⟩) 1 1) (.slice none 0 0) l0 ks #[⟨.int .u32 3, .pointer (some ⟨oo, 0, none⟩), 0⟩] kn 1 from ⟨by rw [hw1, hlg]; exact (HM.out.1.m.alloc _).set_ 22 _, HM.out.1.l.keeps K1.out (Ne.symm HM.out.1.ml), HM.out.1.k.keeps K1.out (Ne.symm HM.out.1.mkb), HM.out.1.o.keeps K1.out (Ne.symm HM.out.1.mo), HM.out.1.x.keeps K1.out (Ne.symm HM.out.1.mx), HM.out.1.ko, HM.out.1.kx, HM.out.1.ox⟩)
  have HO1 := Lib.hid (HM.out.2.keeps K1.out (Ne.symm (HM.out.1.m.ne_ HM.out.2 (by decide))))
  (try rw [← hw1])
  (try rw [← hlg])
  clear hw1 hlg
  have c1 := HM1.out.m.cell
  refine wp_loop_rounds 1 ?_
  rw [rounds_succ]
  go_wp2_with (go_at_call 44; (with_reducible refine (riseo_t ob _ _ HM1.out.o).mono ?_); rintro e w2 ⟨g, c, rfl, hg, hl, hk⟩; have K2 := Lib.hid hk; have hc2 := hg; have HM2 := Lib.hid (HM1.out.kd hk); have HO2 := Lib.hid (HO1.out.keeps hk (fun h => h)); have c2 := (HM1.out.kd hk).m.cell; have o2 := (HO1.out.keeps hk (fun h => h)).cell; have hlk := lk1_o (HM1.out.kd hk).o; have c3 := fun o => ((HM1.out.kd hk).kd ((Keeps.refl (fun _ => False) w2).alloc o)).m.cell; clear hk hg hl c1)
  refine wp_loop_rounds 2 ?_
  rw [rounds_succ]
  go_wp2_with (go_at_call 45; (with_reducible refine (risef_t xb _ (HM2.out.kd (by (repeat (first | exact Keeps.refl _ _ | refine Keeps.drew ?_ | refine Keeps.alloc ?_ _)))).x).mono ?_); rintro e w3 ⟨a3, e3, rfl, hk⟩; have K3 := Lib.hid (Keeps.trans (show Keeps (fun _ => False) w2 _ from by (repeat (first | exact Keeps.refl _ _ | refine Keeps.drew ?_ | refine Keeps.alloc ?_ _))) hk); have HB8 := Lib.hid ((Blk.new w2 62 plL).keeps hk (fun h => h)); clear hk c2 o2 hlk c3 hc2)
  refine wp_loop_rounds 1 ?_
  rw [rounds_succ]
  go_wp2
  obtain ⟨B8, hB8⟩ : ∃ B, B = w2.heap.size := ⟨_, rfl⟩
  rw [← hB8] at HB8
  (try rw [← hB8])
  have HM3 := Lib.hid (HM2.out.kd K3.out)
  have HN := Lib.hid (And.intro (HM3.out.m.ne_ HB8.out (by decide) : mb ≠ B8) (Nat.le_trans K1.out.size K2.out.size |> fun h => (by rw [hB8]; exact h : w.heap.size ≤ B8)))
  clear hB8
  apply join_k
  refine wp_region_held_drew (S := fun W => ∀ i : Nat, W.cell? ⟨B8, i, none⟩ = (plL : List Value)[i]?) (by kernel_rfl) HB8.out.drew.cell (fun hS0 => ?_)
  refine tK 0 hS0 ?_
  refine tK 1 hS0 ?_
  refine tK 2 hS0 ?_
  refine tK 3 hS0 ?_
  refine tK 4 hS0 ?_
  refine tK 6 hS0 ?_
  refine anyH_two 5 7 (by kernel_rfl) rfl (by rfl) rfl (by rfl) (fun K hK => ?_) (fun K hK => ?_)
  · have q := HM3.out.m.drew.cell
    go_simp
    refine hK _ _ hS0 ?_
    clear hK K q
    try simp only [y0, y1, y2, y3, y4, y5, y6]
    refine anyH_one 7 (by kernel_rfl) rfl (by rfl) (fun K hK => ?_)
    go_simp
    refine hK _ _ ((HB8.out.drew.alloc (.cells plL.toArray 62)).cell) ?_
    clear hK K
    try simp only [y0, y1, y2, y3, y4, y5, y6]
    refine anyH_one 8 (by kernel_rfl) rfl (by rfl) (fun K hK => ?_)
    refine app_nil elPl (.tmp 125) (.tmp 127) rfl rfl () w3.heap.size rfl (by exact Mem.news_new (w3.drew) _ plL) ?_
    intro pb pc w5 hg hfr hk5
    have K5 := Lib.hid ((((Keeps.refl (fun _ => False) w3).drew.alloc (.cells plL.toArray 62))).trans hk5)
    have HM5 := Lib.hid (HM3.out.kd K5.out)
    have HB5 := Lib.hid (HB8.out.keeps K5.out (fun h => h))
    have G5 := Lib.hid (And.intro hg (Nat.le_trans (((Keeps.refl (fun _ => False) w3).drew.alloc (.cells plL.toArray 62))).size hfr))
    clear hg hfr hk5
    refine hK _ _ HB5.out.cell ?_
    clear hK K
    try simp only [y0, y1, y2, y3, y4, y5, y6]
    refine tK 9 HB5.out.cell ?_
    refine tK 10 HB5.out.cell ?_
    refine tK 11 HB5.out.cell ?_
    refine anyH_one 12 (by kernel_rfl) rfl (by rfl) (fun K hK => ?_)
    have cm := HM5.out.m.cell
    have fm := HM5.out.m.frozen
    go_simp
    clear cm fm
    refine hK _ _ ((HB5.out.far (p := ⟨mb, 24, none⟩) (Ne.symm HN.out.1) _).cell) ?_
    clear hK K hS0
    try simp only [y0, y1, y2, y3, y4, y5, y6]
    refine wpAnyH_done (by kernel_rfl) ?_ _
    go_wp2
    rw [rounds_succ]
    go_wp2
    go_end0
    have ks : Keeps (fun k => k = mb) w3 (w5.setCell ⟨mb, 24, none⟩ (.slice (some ⟨pb, 0, none⟩) 1 pc)) := (K5.out.mono (T := fun k => k = mb) (fun _ _ h => h.elim)).setCell (p := ⟨mb, 24, none⟩) (fun _ => rfl) _
    have kw : Keeps (fun k => k = mb) w w3 := (K1.out.then K2.out (fun i _ h => h.elim)).then K3.out (fun i _ h => h.elim)
    have q1 := K1.out.size
    have q2 := K2.out.size
    have q3 := K3.out.size
    have q4 := G5.out.2
    have q5 := HM3.out.m.lt
    exact ⟨lg, pb, rfl, kw.then ks (fun i _ e => e), ⟨pc, HM5.out.m.set_ 24 _⟩, fun j u hj => ((Keeps.refl (fun k => k = mb) w5).setCell (p := ⟨mb, 24, none⟩) (fun _ => rfl) (.slice (some ⟨pb, 0, none⟩) 1 pc)).cell (G5.out.1 j u hj) (by simp only; omega), by omega⟩
  · go_simp
    refine hK _ _ ((HB8.out.alloc (.cells plL.toArray 62)).drew.cell) ?_
    clear hK K
    try simp only [y0, y1, y2, y3, y4, y5, y6]
    refine anyH_one 5 (by kernel_rfl) rfl (by rfl) (fun K hK => ?_)
    have q := (HM3.out.m.alloc (.cells plL.toArray 62)).drew.cell
    go_simp
    refine hK _ _ ((HB8.out.alloc (.cells plL.toArray 62)).drew.cell) ?_
    clear hK K q
    try simp only [y0, y1, y2, y3, y4, y5, y6]
    refine anyH_one 8 (by kernel_rfl) rfl (by rfl) (fun K hK => ?_)
    refine app_nil elPl (.tmp 125) (.tmp 127) rfl rfl () w3.heap.size rfl (by exact Mem.news_new (w3) _ plL) ?_
    intro pb pc w5 hg hfr hk5
    have K5 := Lib.hid ((((Keeps.refl (fun _ => False) w3).alloc (.cells plL.toArray 62)).drew).trans hk5)
    have HM5 := Lib.hid (HM3.out.kd K5.out)
    have HB5 := Lib.hid (HB8.out.keeps K5.out (fun h => h))
    have G5 := Lib.hid (And.intro hg (Nat.le_trans (((Keeps.refl (fun _ => False) w3).alloc (.cells plL.toArray 62)).drew).size hfr))
    clear hg hfr hk5
    refine hK _ _ HB5.out.cell ?_
    clear hK K
    try simp only [y0, y1, y2, y3, y4, y5, y6]
    refine tK 9 HB5.out.cell ?_
    refine tK 10 HB5.out.cell ?_
    refine tK 11 HB5.out.cell ?_
    refine anyH_one 12 (by kernel_rfl) rfl (by rfl) (fun K hK => ?_)
    have cm := HM5.out.m.cell
    have fm := HM5.out.m.frozen
    go_simp
    clear cm fm
    refine hK _ _ ((HB5.out.far (p := ⟨mb, 24, none⟩) (Ne.symm HN.out.1) _).cell) ?_
    clear hK K hS0
    try simp only [y0, y1, y2, y3, y4, y5, y6]
    refine wpAnyH_done (by kernel_rfl) ?_ _
    go_wp2
    rw [rounds_succ]
    go_wp2
    go_end0
    have ks : Keeps (fun k => k = mb) w3 (w5.setCell ⟨mb, 24, none⟩ (.slice (some ⟨pb, 0, none⟩) 1 pc)) := (K5.out.mono (T := fun k => k = mb) (fun _ _ h => h.elim)).setCell (p := ⟨mb, 24, none⟩) (fun _ => rfl) _
    have kw : Keeps (fun k => k = mb) w w3 := (K1.out.then K2.out (fun i _ h => h.elim)).then K3.out (fun i _ h => h.elim)
    have q1 := K1.out.size
    have q2 := K2.out.size
    have q3 := K3.out.size
    have q4 := G5.out.2
    have q5 := HM3.out.m.lt
    exact ⟨lg, pb, rfl, kw.then ks (fun i _ e => e), ⟨pc, HM5.out.m.set_ 24 _⟩, fun j u hj => ((Keeps.refl (fun k => k = mb) w5).setCell (p := ⟨mb, 24, none⟩) (fun _ => rfl) (.slice (some ⟨pb, 0, none⟩) 1 pc)).cell (G5.out.1 j u hj) (by simp only; omega), by omega⟩
end
end Mw
end Go.Proofs.YtdaindihobfokaaGreatDoor
