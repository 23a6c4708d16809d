/-
  GrC: Line at the places of 'works': one cell.
-/
import Derived.Test.YtppiohmnbffndaaGrB
namespace Go.Proofs.Ytppiohmnbffndaa
open Go.RowKit Go.Shelf
set_option linter.unusedVariables false
set_option linter.unusedSimpArgs false
attribute [local go_sem] Oper.semAt_some
namespace Gr
open Mem
theorem fl3 (w : World) : Calls Try.prog 62 #[.int .i64 3, .int .i64 10] w fun e w' => e = .returned (.int .i64 0) ∧ w = w' := floor_yes 3 10 w (by decide) (by decide) (by decide) (by decide)
set_option maxHeartbeats 4000000 in
theorem rows_yes (x c : Int) (w : World) : Calls Try.prog 55 #[.agg #[.int .i64 x, .int .i64 3, .int .i64 0, .int .i64 0, .int .i64 10], .int .i64 c] w (Gave (.tuple #[.int .i64 0, .int .i64 0]) w) := by
  have HB := Lib.hid (Blk.new w 99 [.int .i64 x, .int .i64 3, .int .i64 0, .int .i64 0, .int .i64 10])
  have hw : IntKind.i64.wrap 3 = 3 := by decide
  go_enter Try.func55, Try.ntmps55
  go_wp2
  go_region_held3 (fun W => ∀ i : Nat, W.cell? ⟨w.heap.size, i, none⟩ = ([.int .i64 x, .int .i64 3, .int .i64 0, .int .i64 0, .int .i64 10] : List Value)[i]?) (first | with_reducible assumption | exact HB.out.drew.cell) (first
    | (go_at_call 62; (with_reducible refine (fl3 _).mono ?_); rintro e w2 ⟨rfl, rfl⟩))
  all_goals
    go_wp2
    go_ret2
    exact ⟨rfl, by (repeat (first | exact Keeps.refl _ _ | refine Keeps.alloc ?_ _ | refine Keeps.drew ?_))⟩
theorem fld (a b : Int) (W : World) : Sem.run Try.prog (Instr.field 73 (.agg #[.int .i32 a, .int .i32 b]) 0) W = .ok (.int .i32 a) W := by kernel_rfl
set_option maxHeartbeats 8000000 in
set_option maxRecDepth 100000 in
theorem line1_gives (x c : Int) (hx : 0 ≤ x) (hx2 : x ≤ 100) (hof : ∀ w, Calls Try.prog 47 #[.agg #[.int .i32 x, .int .i32 3], .int .i64 10] w (fun e w' => e = .returned (.agg #[.int .i32 c, .int .i32 0]) ∧ ((w.alloc (.cells #[.int .i32 x, .int .i32 3] 24)).alloc (.cells #[.int .i32 c, .int .i32 0] 73)).drew = w')) (hc : 0 ≤ c) (hc2 : c ≤ 100)
    (n SB PB QB : Nat) (W : World) (hS : Blk W SB 2 [.int .i64 10]) (hP : Blk W PB 24 [.int .i32 x, .int .i32 3]) (hQ : Blk W QB 24 [.int .i32 x, .int .i32 3]) :
    Gives Try.prog n 53 #[.pointer (some ⟨SB, 0, none⟩), .pointer (some ⟨PB, 0, none⟩), .pointer (some ⟨QB, 0, none⟩)] (fun c : Int × Int => #[.agg #[.int .i32 c.1, .int .i32 c.2]]) [(c, 0)] W (fun _ => True) := by
  refine Gives.any (n := 9) ?_
  intro l J Jx S hA hJ hJx hin hY h0
  refine callsIn_of_wp Try.func53 rfl trivial ?_ rfl
  simp only [Try.ntmps53, List.size_toArray, List.length_cons, List.length_nil, Nat.reduceAdd, Nat.reduceSub, Array.replicate_succ, Array.replicate_zero, List.push_toArray, List.append_toArray, List.nil_append, List.cons_append]
  have HY := Lib.hid hY; clear hY
  have H0 := Lib.hid h0; clear h0
  have HJ := Lib.hid hJ; clear hJ
  have HX := Lib.hid hJx; clear hJx
  have cS := hS.cell 0
  have cP := hP.cell
  have cQ := hQ.cell
  simp only [List.getElem?_cons_zero] at cS
  have cP1 := fun o => (hP.alloc o).cell
  have cQ1 := fun o => (hQ.alloc o).cell
  have cS1 := fun o => (hS.alloc o).cell 0
  have cP2 := fun o1 o2 => ((hP.alloc o1).alloc o2).cell
  have cQ2 := fun o1 o2 => ((hQ.alloc o1).alloc o2).cell
  have cS2 := fun o1 o2 => ((hS.alloc o1).alloc o2).cell 0
  simp only [List.getElem?_cons_zero] at cS1 cS2
  have HS := Lib.hid hS
  have HP := Lib.hid hP
  have HQ := Lib.hid hQ
  have HO := Lib.hid hof
  have hz : x - x = 0 := by omega
  have hw : IntKind.i64.wrap x = x := IntWalk.i64_in _ (by omega)
  have HZ := Lib.hid (And.intro hc hc2)
  clear hS hP hQ hof hc hc2
  gi_wp2_with (first
    | (refine ⟨trivial, ?_⟩; gi_at_call 45; refine (callsIn_wide.2 (size_yes _)).mono ?_; rintro e w1 ⟨rfl, rfl⟩)
    | (refine ⟨trivial, ?_⟩; gi_at_call 54; refine (callsIn_wide.2 (in_yes _ _ _ hx (by decide) hx2 (by decide))).mono ?_; rintro e w1 ⟨rfl, rfl⟩))
  refine wpIn_wide.2 ?_
  have hfl := fld
  go_region_held3 (fun W1 => (∀ i : Nat, W1.cell? ⟨SB, i, none⟩ = ([.int .i64 10] : List Value)[i]?) ∧ (∀ i : Nat, W1.cell? ⟨PB, i, none⟩ = ([.int .i32 x, .int .i32 3] : List Value)[i]?) ∧ (∀ i : Nat, W1.cell? ⟨QB, i, none⟩ = ([.int .i32 x, .int .i32 3] : List Value)[i]?)) (first | with_reducible assumption | exact ⟨(HS.out.keeps (S := fun _ => False) (by (repeat (first | exact Keeps.refl _ _ | refine Keeps.alloc ?_ _ | refine Keeps.drew ?_))) (fun h => h)).cell, (HP.out.keeps (S := fun _ => False) (by (repeat (first | exact Keeps.refl _ _ | refine Keeps.alloc ?_ _ | refine Keeps.drew ?_))) (fun h => h)).cell, (HQ.out.keeps (S := fun _ => False) (by (repeat (first | exact Keeps.refl _ _ | refine Keeps.alloc ?_ _ | refine Keeps.drew ?_))) (fun h => h)).cell⟩) (first
    | (go_at_call 47; (with_reducible refine (HO.out _).mono ?_); rintro e w2 ⟨rfl, rfl⟩))
  all_goals
    obtain ⟨hc, hc2⟩ := HZ.out
    gi_wp2
    refine wpIn_loop_rounds 2 ?_
    rw [roundsIn_succ]
    gi_wp2_with (refine ⟨trivial, ?_⟩; gi_at_call 55; refine (callsIn_wide.2 (rows_yes _ _ _)).mono ?_; rintro e w1 ⟨rfl, hk⟩; have HK := Lib.hid (show Keeps (fun _ => False) W w1 from by refine Keeps.trans ?_ hk; (repeat (first | exact Keeps.refl _ _ | refine Keeps.alloc ?_ _ | refine Keeps.drew ?_))); clear hk)
    refine wpIn_loop_rounds 2 ?_
    rw [roundsIn_succ]
    obtain ⟨fn, tmps, assign, body, hy, hR⟩ := HY.out [] (c, 0) [] S w1 rfl (HJ.out [] S (fun _ => False) W w1 H0.out hin HK.out (fun _ _ h => h) (fun _ h => h.elim)) (hin.mono HK.out.size)
    have HF := Lib.hid (Foot.same (S := S) (HK.out.mono (fun _ _ h => h.elim)))
    gi_wp2
    refine (hR.mono ?_ : RoundIn _ _ _ _ _ _ _ _ _ _)
    rintro e W3 ⟨S3, hf3, hin3, (⟨rfl, hj3⟩ | ⟨rfl, hj3⟩)⟩
    · gi_wp2
      rw [roundsIn_succ]
      gi_wp2
      rw [roundsIn_succ]
      gi_wp2
      go_end0
      exact ⟨⟨_, rfl⟩, S3, HF.out.trans hf3, hin3, .inl hj3⟩
    · gi_wp2
      refine bodyPost_ret (results_none rfl _ _ _) rfl ?_
      exact ⟨⟨_, rfl⟩, S3, HF.out.trans hf3, hin3, .inr ⟨[(c, 0)], List.prefix_refl _, hj3⟩⟩
theorem line33_gives (n SB PB QB : Nat) (W : World) (hS : Blk W SB 2 [.int .i64 10]) (hP : Blk W PB 24 [.int .i32 3, .int .i32 3]) (hQ : Blk W QB 24 [.int .i32 3, .int .i32 3]) :
    Gives Try.prog n 53 #[.pointer (some ⟨SB, 0, none⟩), .pointer (some ⟨PB, 0, none⟩), .pointer (some ⟨QB, 0, none⟩)] (fun c : Int × Int => #[.agg #[.int .i32 c.1, .int .i32 c.2]]) [(0, 0)] W (fun _ => True) := line1_gives 3 0 (by decide) (by decide) of33 (by decide) (by decide) n SB PB QB W hS hP hQ
theorem line503_gives (n SB PB QB : Nat) (W : World) (hS : Blk W SB 2 [.int .i64 10]) (hP : Blk W PB 24 [.int .i32 50, .int .i32 3]) (hQ : Blk W QB 24 [.int .i32 50, .int .i32 3]) :
    Gives Try.prog n 53 #[.pointer (some ⟨SB, 0, none⟩), .pointer (some ⟨PB, 0, none⟩), .pointer (some ⟨QB, 0, none⟩)] (fun c : Int × Int => #[.agg #[.int .i32 c.1, .int .i32 c.2]]) [(5, 0)] W (fun _ => True) := line1_gives 50 5 (by decide) (by decide) of503 (by decide) (by decide) n SB PB QB W hS hP hQ
end Gr
end Go.Proofs.Ytppiohmnbffndaa
