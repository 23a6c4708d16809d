/-
GrB: Cover and Line at the few places of 'works': one cell each.
-/
import Derived.Test.YtdbpfbokfmpgcaaZaaMemIterTreeAHeldGrA
namespace Go.Proofs.Ytdbpfbokfmpgcaa
open Go.RowKit Go.Shelf
set_option linter.unusedVariables false
set_option linter.unusedSimpArgs false
attribute [local go_sem] Oper.semAt_some
namespace Gr
open Mem
theorem YieldAt_any {P : Program} {m m' l : Nat} {args : Array Value} {W : World} {R : Ending → World → Prop} (h : YieldAt Fence.wide m P l args W R) : YieldAt Fence.wide m' P l args W R := by
  obtain ⟨fn, tmps, assign, body, hy, hF, hR⟩ := h
  exact ⟨fn, tmps, assign, body, hy, hF, fun c cs _ => hR c cs (room_wide _)⟩
theorem Gives.any {α : Type} {P : Program} {n n' gf : Nat} {lb : Array Value} {encs : α → Array Value} {xs : List α} {W : World} {A : (Nat → Prop) → Prop} (h : Gives P n gf lb encs xs W A) : Gives P n' gf lb encs xs W A := by
  intro l J Jx S hA hJ hJx hin hY h0
  exact callsIn_wide.2 (callsIn_wide.1 (h l J Jx S hA hJ hJx hin (fun pre x rest S1 W1 e hj hi => YieldAt_any (hY pre x rest S1 W1 e hj hi)) h0))
theorem values_any (a : Option Addr) (k c : Nat) (w : World) :
    Calls Try.prog 16 #[.slice a k c] w fun e w' => e = .returned (.func (.func 35) #[] #[.pointer (some ⟨w.heap.size, 0, none⟩)]) ∧ w.alloc (.cells #[.slice a k c] 41) = w' := by
  go_enter Try.func16, Try.ntmps16
  go_wp2
  go_ret
  exact ⟨rfl, rfl⟩
def cellVal (c : Int × Int) : Array Value := #[.agg #[.int .i32 c.1, .int .i32 c.2]]
set_option maxHeartbeats 8000000 in
set_option maxRecDepth 100000 in
theorem cover1_gives (n SB BB : Nat) (W : World) (hS : Blk W SB 2 [.int .i64 10]) (hB : Blk W BB 35 [.int .i32 0, .int .i32 0, .int .i32 3, .int .i32 3]) :
    Gives Try.prog n 50 #[.pointer (some ⟨SB, 0, none⟩), .pointer (some ⟨BB, 0, none⟩)] (fun c : Int × Int => #[.agg #[.int .i32 c.1, .int .i32 c.2]]) [(0, 0)] W (fun _ => True) := by
  refine Gives.any (n := 9) ?_
  intro l J Jx S hA hJ hJx hin hY h0
  refine callsIn_of_wp Try.func50 rfl trivial ?_ rfl
  simp only [Try.ntmps50, List.size_toArray, List.length_cons, List.length_nil, Nat.reduceAdd, Nat.reduceSub, Array.replicate_succ, Array.replicate_zero, List.push_toArray, List.append_toArray, List.nil_append, List.cons_append]
  have HY := Lib.hid hY; clear hY
  have H0 := Lib.hid h0; clear h0
  have HJ := Lib.hid hJ; clear hJ
  have HX := Lib.hid hJx; clear hJx
  have cS := fun o => (hS.alloc o).cell 0
  have cB := fun o => (hB.alloc o).cell
  simp only [List.getElem?_cons_zero] at cS
  have HS := Lib.hid hS
  have HB := Lib.hid hB
  clear hS hB
  gi_wp2_with (first
    | (refine ⟨trivial, ?_⟩; gi_at_call 39; refine (callsIn_wide.2 (size_yes _)).mono ?_; rintro e w1 ⟨rfl, rfl⟩)
    | (refine ⟨trivial, ?_⟩; gi_at_call 49; refine (callsIn_wide.2 (box_yes _)).mono ?_; rintro e w1 ⟨rfl, rfl⟩))
  refine wpIn_wide.2 ?_
  have HW := Lib.hid (Keeps.refl (fun _ => False) W)
  go_region_held3 (fun W1 => (∀ i : Nat, W1.cell? ⟨SB, i, none⟩ = ([.int .i64 10] : List Value)[i]?) ∧ (∀ i : Nat, W1.cell? ⟨BB, i, none⟩ = ([.int .i32 0, .int .i32 0, .int .i32 3, .int .i32 3] : List Value)[i]?)) (first | with_reducible assumption | exact ⟨(HS.out.keeps (S := fun _ => False) (by (repeat (first | exact Keeps.refl _ _ | refine Keeps.alloc ?_ _ | refine Keeps.drew ?_))) (fun h => h)).cell, (HB.out.keeps (S := fun _ => False) (by (repeat (first | exact Keeps.refl _ _ | refine Keeps.alloc ?_ _ | refine Keeps.drew ?_))) (fun h => h)).cell⟩) (first
    | (go_at_call 41; (first | (with_reducible refine (of00 _).mono ?_) | (with_reducible refine (of33 _).mono ?_)); rintro e w2 ⟨rfl, rfl⟩))
  all_goals
    gi_wp2
    refine (show ∀ Wx, Keeps (fun _ => False) W Wx → Oper.uponIn _ _ _ _ _ _ _ (Sem.run _ (Instr.yield l _) Wx) from ?_) _ (by (repeat (first | exact Keeps.refl _ _ | refine Keeps.alloc ?_ _ | refine Keeps.drew ?_)))
    intro Wx hk
    obtain ⟨fn, tmps, assign, body, hy, hR⟩ := HY.out [] (0, 0) [] S Wx rfl (HJ.out [] S (fun _ => False) W Wx H0.out hin hk (fun _ _ h => h) (fun _ h => h.elim)) (hin.mono hk.size)
    have HK := Lib.hid (Foot.same (S := S) (hk.mono (fun _ _ h => h.elim)))
    clear hk
    rw [hy]
    simp only [Oper.uponIn]
    refine ⟨fun h => by simp [Fence.wide] at h, hR.mono ?_⟩
    rintro e W3 ⟨S3, hf3, hin3, (⟨rfl, hj3⟩ | ⟨rfl, hj3⟩)⟩
    · gi_wp2
      refine bodyPost_ret (results_none rfl _ _ _) rfl ?_
      exact ⟨⟨_, rfl⟩, S3, HK.out.trans hf3, hin3, .inl hj3⟩
    · gi_wp2
      refine bodyPost_ret (results_none rfl _ _ _) rfl ?_
      exact ⟨⟨_, rfl⟩, S3, HK.out.trans hf3, hin3, .inr ⟨[(0, 0)], List.prefix_refl _, hj3⟩⟩
end Gr
end Go.Proofs.Ytdbpfbokfmpgcaa
