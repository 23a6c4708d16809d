/-
  walks of a tree: Range, At, Crossing as values; what they hand out, given what found tells.
-/
import Derived.Test.YtndghakagogmcaaTreeB
import Derived.Test.YtndghakagogmcaaTreeD
namespace Go.Proofs.Ytndghakagogmcaa
open Go.RowKit
set_option linter.unusedVariables false
attribute [local go_sem] Oper.semAt_some
namespace Tree
open Mem
theorem YieldAt_any {P : Program} {m m' l : Nat} {args : Array Value} {W : World} {R : Ending → World → Prop} (h : YieldAt Fence.wide m P l args W R) : YieldAt Fence.wide m' P l args W R := by
  obtain ⟨fn, tmps, assign, body, hy, hF, hR⟩ := h
  exact ⟨fn, tmps, assign, body, hy, hF, fun c cs _ => hR c cs (room_wide _)⟩
theorem Gives.any {α : Type} {P : Program} {n n' gf : Nat} {lb : Array Value} {encs : α → Array Value} {xs : List α} {W : World} {A : (Nat → Prop) → Prop} (h : Gives P n gf lb encs xs W A) : Gives P n' gf lb encs xs W A := by
  intro l J Jx S hA hJ hJx hin hY h0
  exact callsIn_wide.2 (callsIn_wide.1 (h l J Jx S hA hJ hJx hin (fun pre x rest S1 W1 e hj hi => YieldAt_any (hY pre x rest S1 W1 e hj hi)) h0))
theorem values_any (a : Option Addr) (k c : Nat) (w : World) :
    Calls Try.prog 48 #[.slice a k c] w fun e w' => e = .returned (.func (.func 59) #[] #[.pointer (some ⟨w.heap.size, 0, none⟩)]) ∧ w.alloc (.cells #[.slice a k c] 51) = w' := by
  go_enter Try.func48, Try.ntmps48
  go_wp2
  go_ret
  exact ⟨rfl, rfl⟩
set_option maxRecDepth 100000 in
theorem range1_gives (n B1 B2 : Nat) (p : Option Addr) (bx : Bx) (xs : List Nat) (W : World) (hl : xs.length ≤ 1000000)
    (h1 : Blk W B1 48 [.pointer p]) (h2 : Blk W B2 47 [.int .i32 bx.x0, .int .i32 bx.y0, .int .i32 bx.x1, .int .i32 bx.y1])
    (hf : Calls Try.prog 49 #[.pointer p, .agg #[.int .i32 bx.x0, .int .i32 bx.y0, .int .i32 bx.x1, .int .i32 bx.y1]] W (Fresh W xs)) :
    Gives Try.prog n 47 #[.pointer (some ⟨B1, 0, none⟩), .pointer (some ⟨B2, 0, none⟩)] (fun x : Nat => #[.int .u32 (x : Int)]) xs W (fun _ => True) := by
  refine Gives.any (n := 8) ?_
  intro l J Jx S hA hJ hJx hin hY h0
  have c1 := h1.cell
  have c2 := h2.cell
  refine callsIn_of_wp Try.func47 rfl trivial ?_ rfl
  simp only [Try.ntmps47, List.size_toArray, List.length_cons, List.length_nil, Nat.reduceAdd, Nat.reduceSub, Array.replicate_succ, Array.replicate_zero, List.push_toArray, List.append_toArray, List.nil_append, List.cons_append]
  have HY := Lib.hid hY; clear hY
  have Hf := Lib.hid hf; clear hf
  have HJ := Lib.hid hJ; clear hJ
  have HX := Lib.hid hJx; clear hJx
  have H0 := Lib.hid h0; clear h0
  gi_wp2_with (first
    | (refine ⟨trivial, ?_⟩; gi_at_call 49; refine (callsIn_wide.2 Hf.out).mono ?_; rintro e w1 ⟨v, rfl, hO, hk⟩; obtain ⟨a, c, rfl⟩ := own_slice hO)
    | (refine ⟨trivial, ?_⟩; gi_at_call 48; refine (callsIn_wide.2 (values_any _ _ _ _)).mono ?_; rintro e w2 ⟨rfl, rfl⟩))
  refine ⟨trivial, ?_⟩
  have hz := hk.size
  have hkk : Keeps (fun _ => False) W (w1.alloc (.cells #[.slice a xs.length c] 51)) := hk.alloc _
  have hv := U32s.of_own (hO.alloc (.cells #[.slice a xs.length c] 51))
  have hBn := (Blk.new w1 51 [.slice a xs.length c]).cell 0
  refine (Gives.any (n := 8) (n' := 8 - 1) (values1_gives 8 w1.heap.size _ xs _ (by omega) hBn hv) l J Jx S ?_ (HJ.out.mono (by have := hkk.size; omega)) (HX.out.mono (by have := hkk.size; omega)) (hin.mono hkk.size) (fun pre x rest S1 W1 e hj hi => YieldAt_any (HY.out pre x rest S1 W1 e hj hi)) (HJ.out [] S (fun _ => False) W _ H0.out hin hkk (fun _ _ h => h) (fun _ h => h.elim))).mono ?_
  · intro k hk1 hk2
    have := hin k hk1
    have := rowOf_base hO k hk2
    omega
  · rintro e W' ⟨⟨v, rfl⟩, S', hf, hin', hj⟩
    gi_wp2
    go_end0
    exact ⟨⟨_, rfl⟩, S', (Foot.same (hkk.mono (fun _ _ h => h.elim))).trans hf, hin', hj⟩
end Tree
end Go.Proofs.Ytndghakagogmcaa
