/-
  GrL: no grid, and a zero one.
-/
import Derived.Test.YtppiohmnbffndaaGrK
namespace Go.Proofs.Ytppiohmnbffndaa
open Go.RowKit Go.Shelf
set_option linter.unusedVariables false
set_option linter.unusedSimpArgs false
attribute [local go_sem] Oper.semAt_some
namespace Gr
open Mem Tree
def NoG (w : World) (p : Option Addr) : Prop := p = none ∨ ∃ b, p = some ⟨b, 0, none⟩ ∧ Blk w b 65 [.int .i64 0, .map none, .map none, .map none]
theorem NoG.keeps {w w' : World} {p : Option Addr} (h : NoG w p) (k : Keeps (fun _ => False) w w') : NoG w' p := by
  rcases h with h | ⟨b, h, hb⟩
  · exact .inl h
  · exact .inr ⟨b, h, hb.keeps k id⟩
theorem neq_mapn (W : World) : (binOp .neq 61 (.map none) (.map none)).run Try.prog W = .ok (.bool false) W := by kernel_rfl
set_option maxRecDepth 100000 in
theorem there_no (p : Option Addr) (w : World) (h : NoG w p) : Calls Try.prog 23 #[.pointer p] w fun e w' => e = .returned (.bool false) ∧ w = w' := by
  rcases h with rfl | ⟨b, rfl, hb⟩
  · go_enter Try.func23, Try.ntmps23
    go_wp2
    go_ret
    exact ⟨rfl, rfl⟩
  · have hm := neq_mapn
    have c := hb.cell
    clear hb
    go_enter Try.func23, Try.ntmps23
    go_wp2
    go_ret
    exact ⟨rfl, rfl⟩
theorem len_no (p : Option Addr) (w : World) (h : NoG w p) : Calls Try.prog 15 #[.pointer p] w fun e w' => e = .returned (.int .i64 0) ∧ w = w' := by
  go_enter Try.func15, Try.ntmps15
  go_wp2_with (go_at_call 23; with_reducible refine (there_no p _ (h.keeps (by (repeat (first | exact Keeps.refl _ _ | refine Keeps.alloc ?_ _ | refine Keeps.drew ?_))))).mono ?_; rintro e w1 ⟨rfl, rfl⟩)
  go_ret
  exact ⟨rfl, rfl⟩
theorem apart_no (p : Option Addr) (w : World) (h : NoG w p) : Calls Try.prog 42 #[.pointer p] w fun e w' => e = .returned (.int .i64 0) ∧ w = w' := by
  go_enter Try.func42, Try.ntmps42
  go_wp2_with (go_at_call 23; with_reducible refine (there_no p _ (h.keeps (by (repeat (first | exact Keeps.refl _ _ | refine Keeps.alloc ?_ _ | refine Keeps.drew ?_))))).mono ?_; rintro e w1 ⟨rfl, rfl⟩)
  go_ret
  exact ⟨rfl, rfl⟩
theorem cells_no (p : Option Addr) (w : World) (h : NoG w p) : Calls Try.prog 16 #[.pointer p] w fun e w' => e = .returned (.int .i64 0) ∧ w = w' := by
  go_enter Try.func16, Try.ntmps16
  go_wp2_with (go_at_call 23; with_reducible refine (there_no p _ (h.keeps (by (repeat (first | exact Keeps.refl _ _ | refine Keeps.alloc ?_ _ | refine Keeps.drew ?_))))).mono ?_; rintro e w1 ⟨rfl, rfl⟩)
  go_ret
  exact ⟨rfl, rfl⟩
theorem put_no (p : Option Addr) (id x0 y0 x1 y1 : Int) (w : World) (h : NoG w p) : Calls Try.prog 10 #[.pointer p, .int .u32 id, .agg #[.int .i32 x0, .int .i32 y0, .int .i32 x1, .int .i32 y1]] w (Gave (.int .i64 1) w) := by
  refine (callsIn_wide (n := 9)).1 ?_
  refine callsIn_of_wp_marks Try.func10 rfl trivial ?_ rfl
  simp only [Try.ntmps10, List.size_toArray, List.length_cons, List.length_nil, Nat.reduceAdd, Nat.reduceSub, Array.replicate_succ, Array.replicate_zero, List.push_toArray, List.append_toArray, List.nil_append, List.cons_append]
  refine wpIn_wide.2 ?_
  go_wp2_with (go_at_call 23; with_reducible refine (there_no p _ (h.keeps (by (repeat (first | exact Keeps.refl _ _ | refine Keeps.alloc ?_ _ | refine Keeps.drew ?_))))).mono ?_; rintro e w1 ⟨rfl, rfl⟩)
  exact ⟨_, results_tmp rfl _ _ _, rfl, by (repeat (first | exact Keeps.refl _ _ | refine Keeps.alloc ?_ _ | refine Keeps.drew ?_))⟩
theorem del_no (p : Option Addr) (id : Int) (w : World) (h : NoG w p) : Calls Try.prog 11 #[.pointer p, .int .u32 id] w (Gave (.int .i64 1) w) := by
  refine (callsIn_wide (n := 9)).1 ?_
  refine callsIn_of_wp_marks Try.func11 rfl trivial ?_ rfl
  simp only [Try.ntmps11, List.size_toArray, List.length_cons, List.length_nil, Nat.reduceAdd, Nat.reduceSub, Array.replicate_succ, Array.replicate_zero, List.push_toArray, List.append_toArray, List.nil_append, List.cons_append]
  refine wpIn_wide.2 ?_
  go_wp2_with (go_at_call 23; with_reducible refine (there_no p _ (h.keeps (by (repeat (first | exact Keeps.refl _ _ | refine Keeps.alloc ?_ _ | refine Keeps.drew ?_))))).mono ?_; rintro e w1 ⟨rfl, rfl⟩)
  exact ⟨_, results_tmp rfl _ _ _, rfl, by (repeat (first | exact Keeps.refl _ _ | refine Keeps.alloc ?_ _ | refine Keeps.drew ?_))⟩
def NV (w : World) (e : Ending) (w' : World) : Prop := ∃ VB, e = .returned (.func (.func 51) #[] #[.pointer (some ⟨VB, 0, none⟩)]) ∧ Keeps (fun _ => False) w w' ∧ Blk w' VB 53 [.slice none 0 0] ∧ w.heap.size ≤ VB
theorem at_no (p : Option Addr) (x y : Int) (w : World) (h : NoG w p) : Calls Try.prog 13 #[.pointer p, .agg #[.int .i32 x, .int .i32 y]] w (NV w) := by
  go_enter Try.func13, Try.ntmps13
  go_wp2_with (first | (go_at_call 23; with_reducible refine (there_no p _ (h.keeps (by (repeat (first | exact Keeps.refl _ _ | refine Keeps.alloc ?_ _ | refine Keeps.drew ?_))))).mono ?_; rintro e w1 ⟨rfl, rfl⟩) | (go_at_call 30; with_reducible refine (values_any _ _ _ _).mono ?_; rintro e w2 ⟨rfl, rfl⟩))
  go_ret
  have hb := Blk.new (w.alloc (.cells #[.int .i32 x, .int .i32 y] 24)) 53 [.slice none 0 0]
  simp only [World.size_alloc] at hb
  exact ⟨_, rfl, by (repeat (first | exact Keeps.refl _ _ | refine Keeps.alloc ?_ _ | refine Keeps.drew ?_)), hb, by omega⟩
theorem crossing_no (p : Option Addr) (x y x1 y1 : Int) (w : World) (h : NoG w p) : Calls Try.prog 14 #[.pointer p, .agg #[.int .i32 x, .int .i32 y], .agg #[.int .i32 x1, .int .i32 y1]] w (NV w) := by
  go_enter Try.func14, Try.ntmps14
  go_wp2_with (first | (go_at_call 23; with_reducible refine (there_no p _ (h.keeps (by (repeat (first | exact Keeps.refl _ _ | refine Keeps.alloc ?_ _ | refine Keeps.drew ?_))))).mono ?_; rintro e w1 ⟨rfl, rfl⟩) | (go_at_call 30; with_reducible refine (values_any _ _ _ _).mono ?_; rintro e w2 ⟨rfl, rfl⟩))
  go_ret
  have hb := Blk.new ((w.alloc (.cells #[.int .i32 x, .int .i32 y] 24)).alloc (.cells #[.int .i32 x1, .int .i32 y1] 24)) 53 [.slice none 0 0]
  simp only [World.size_alloc] at hb
  exact ⟨_, rfl, by (repeat (first | exact Keeps.refl _ _ | refine Keeps.alloc ?_ _ | refine Keeps.drew ?_)), hb, by omega⟩
end Gr
end Go.Proofs.Ytppiohmnbffndaa
