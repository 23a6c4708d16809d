/-
  GrE: the maps of a grid at one entry; Cover, Line, Sort and Compact at no more than one element.
-/
import Derived.Test.YtppiohmnbffndaaGrD
namespace Go.Proofs.Ytppiohmnbffndaa
open Go.RowKit Go.Shelf
set_option linter.unusedVariables false
set_option linter.unusedSimpArgs false
attribute [local go_sem] Oper.semAt_some
namespace Gr
open Mem
def setM (w : World) (r : Nat) (es : Array MapEntry) (k : Nat) : World := { w with heap := w.heap.setIfInBounds r (.map es k) }
theorem setM_keeps (w : World) (r : Nat) (es : Array MapEntry) (k : Nat) : Keeps (fun x => x = r) w (setM w r es k) :=
  ⟨rfl, rfl, rfl, by simp [setM], fun x _ hn => by simp [setM, Array.getElem?_setIfInBounds_ne (Ne.symm hn)]⟩
theorem setM_mp {w : World} {r k0 : Nat} {es0 : Array MapEntry} (h : Mp w r es0 k0) (es : Array MapEntry) (k : Nat) : Mp (setM w r es k) r es k := by
  have := h.lt
  simp [Mp, setM, Array.getElem?_setIfInBounds_self_of_lt this]
theorem ck61 (e : Bool) (W : World) : (Instr.checkKey e 10000 35 (.int .u32 4)).run Try.prog W = .ok () W := by kernel_rfl
theorem ck62 (e : Bool) (a b : Int) (W : World) : (Instr.checkKey e 10000 73 (.agg #[.int .i32 a, .int .i32 b])).run Try.prog W = .ok () W := by kernel_rfl
theorem fk61 (W : World) : (Instr.findKey 35 (.int .u32 4) []).run Try.prog W = .ok none W := by kernel_rfl
theorem fk62 (a b : Int) (W : World) : (Instr.findKey 73 (.agg #[.int .i32 a, .int .i32 b]) []).run Try.prog W = .ok none W := by kernel_rfl
theorem fk62y (v : Value) (W : World) : (Instr.findKey 73 (.agg #[.int .i32 0, .int .i32 0]) [⟨.agg #[.int .i32 0, .int .i32 0], v, 0⟩]).run Try.prog W = .ok (some (0, v)) W := by kernel_rfl
theorem fk62n (v : Value) (W : World) : (Instr.findKey 73 (.agg #[.int .i32 5, .int .i32 0]) [⟨.agg #[.int .i32 0, .int .i32 0], v, 0⟩]).run Try.prog W = .ok none W := by kernel_rfl
theorem zv37 (W : World) : (zeroValue 37).run Try.prog W = .ok (.agg #[.int .i32 0, .int .i32 0, .int .i32 0, .int .i32 0]) W := by kernel_rfl
theorem zv53 (W : World) : (zeroValue 53).run Try.prog W = .ok (.slice none 0 0) W := by kernel_rfl
theorem lk61 {W : World} {r : Nat} (h : Mp W r #[] 0) : (Instr.lookup 61 (.map (some r)) (.int .u32 4) true).run Try.prog W = .ok (.tuple #[.agg #[.int .i32 0, .int .i32 0, .int .i32 0, .int .i32 0], .bool false]) W := by
  simp [Instr.lookup, run_underlying Try.underlying61, MapKept.run_getObj_map h, ck61, fk61, zv37, Result.andThen]
theorem up61 {W : World} {r : Nat} (h : Mp W r #[] 0) (v : Value) : (Instr.mapUpdate 61 (.map (some r)) (.int .u32 4) v).run Try.prog W = .ok () (setM W r #[⟨.int .u32 4, v, 0⟩] 1) := by
  simp [Instr.mapUpdate, run_underlying Try.underlying61, MapKept.run_getObj_map h, MapKept.run_setObj_map _ h, ck61, fk61, Result.andThen, setM]
theorem en62 {W : World} {r : Nat} (h : Mp W r #[] 0) (a b : Int) : (Instr.mapEntry 62 (.map (some r)) (.agg #[.int .i32 a, .int .i32 b])).run Try.prog W = .ok (.tuple #[.slice none 0 0, .int .i64 0]) (setM W r #[⟨.agg #[.int .i32 a, .int .i32 b], .slice none 0 0, 0⟩] 1) := by
  simp [Instr.mapEntry, run_underlying Try.underlying62, MapKept.run_getObj_map h, MapKept.run_setObj_map _ h, ck62, fk62, zv53, Result.andThen, setM, goInt]
theorem st62 {W : World} {r : Nat} {a b : Int} {u : Value} (h : Mp W r #[⟨.agg #[.int .i32 a, .int .i32 b], u, 0⟩] 1) (v : Value) : (Instr.entryStore 62 (.map (some r)) (.int .i64 0) v).run Try.prog W = .ok () (setM W r #[⟨.agg #[.int .i32 a, .int .i32 b], v, 0⟩] 1) := by
  have hi : (#[⟨.agg #[.int .i32 a, .int .i32 b], u, 0⟩] : Array MapEntry).findIdx? (fun e : MapEntry => (e.born : Int) == 0) = some 0 := by unfold Array.findIdx? Array.findIdx?.loop; simp
  simp only [Instr.entryStore, Sem.run_bind, MapKept.run_getObj_map h, Result.andThen, asInt, asIntOf, Sem.run_pure, hi, MapKept.run_setObj_map _ h]
  rfl
theorem lk62y {W : World} {r : Nat} {v : Value} (h : Mp W r #[⟨.agg #[.int .i32 0, .int .i32 0], v, 0⟩] 1) : (Instr.lookup 62 (.map (some r)) (.agg #[.int .i32 0, .int .i32 0]) false).run Try.prog W = .ok v W := by
  simp [Instr.lookup, run_underlying Try.underlying62, MapKept.run_getObj_map h, ck62, fk62y, Result.andThen]
theorem lk62n {W : World} {r : Nat} {v : Value} (h : Mp W r #[⟨.agg #[.int .i32 0, .int .i32 0], v, 0⟩] 1) : (Instr.lookup 62 (.map (some r)) (.agg #[.int .i32 5, .int .i32 0]) false).run Try.prog W = .ok (.slice none 0 0) W := by
  simp [Instr.lookup, run_underlying Try.underlying62, MapKept.run_getObj_map h, ck62, fk62n, zv53, Result.andThen]
theorem cover_any (w : World) : Calls Try.prog 26 #[.agg #[.int .i32 0, .int .i32 0, .int .i32 3, .int .i32 3], .int .i64 10] w fun e w' => e = .returned (.func (.func 48) #[] #[.pointer (some ⟨w.heap.size + 1, 0, none⟩), .pointer (some ⟨w.heap.size, 0, none⟩)]) ∧ (w.alloc (.cells #[.int .i32 0, .int .i32 0, .int .i32 3, .int .i32 3] 37)).alloc (.cells #[.int .i64 10] 2) = w' := by
  go_enter Try.func26, Try.ntmps26
  go_wp2
  go_ret
  exact ⟨rfl, rfl⟩
theorem line_any (x y : Int) (w : World) : Calls Try.prog 32 #[.agg #[.int .i32 x, .int .i32 y], .agg #[.int .i32 x, .int .i32 y], .int .i64 10] w fun e w' => e = .returned (.func (.func 53) #[] #[.pointer (some ⟨w.heap.size + 1 + 1, 0, none⟩), .pointer (some ⟨w.heap.size, 0, none⟩), .pointer (some ⟨w.heap.size + 1, 0, none⟩)]) ∧ ((w.alloc (.cells #[.int .i32 x, .int .i32 y] 24)).alloc (.cells #[.int .i32 x, .int .i32 y] 24)).alloc (.cells #[.int .i64 10] 2) = w' := by
  go_enter Try.func32, Try.ntmps32
  go_wp2
  go_ret
  exact ⟨rfl, rfl⟩
theorem insertion1 (a : Option Addr) (n c : Nat) (hn : n ≤ 1) (w : World) : Calls Try.prog 67 #[.slice a n c, .int .i64 0, .int .i64 (n : Int)] w fun e w' => (∃ v, e = .returned v) ∧ w = w' := by
  have h1 : ¬ (1 : Int) < (n : Int) := by omega
  refine (callsIn_wide (n := 9)).1 ?_
  refine callsIn_of_wp Try.func67 rfl trivial ?_ rfl
  simp only [Try.ntmps67, List.size_toArray, List.length_cons, List.length_nil, Nat.reduceAdd, Nat.reduceSub, Array.replicate_succ, Array.replicate_zero, List.push_toArray, List.append_toArray, List.nil_append, List.cons_append]
  gi_wp2
  refine wpIn_loop_rounds 1 ?_
  rw [roundsIn_succ]
  gi_wp2
  go_end0
  exact ⟨⟨_, rfl⟩, rfl⟩
theorem pdq1 (a : Option Addr) (n c : Nat) (hn : n ≤ 1) (l : Value) (w : World) : Calls Try.prog 57 #[.slice a n c, .int .i64 0, .int .i64 (n : Int), l] w fun e w' => (∃ v, e = .returned v) ∧ w = w' := by
  have h1 : (n : Int) ≤ 12 := by omega
  have h2 : IntKind.i64.wrap (n : Int) = (n : Int) := IntWalk.i64_in _ (by omega)
  refine (callsIn_wide (n := 9)).1 ?_
  refine callsIn_of_wp Try.func57 rfl trivial ?_ rfl
  simp only [Try.ntmps57, List.size_toArray, List.length_cons, List.length_nil, Nat.reduceAdd, Nat.reduceSub, Array.replicate_succ, Array.replicate_zero, List.push_toArray, List.append_toArray, List.nil_append, List.cons_append]
  gi_wp2
  refine wpIn_loop_rounds 1 ?_
  rw [roundsIn_succ]
  gi_wp2_with (refine ⟨trivial, ?_⟩; gi_at_call 67; refine (callsIn_wide.2 (insertion1 _ _ _ hn _)).mono ?_; rintro e w1 ⟨⟨v, rfl⟩, rfl⟩)
  refine bodyPost_ret (results_none rfl _ _ _) rfl ?_
  exact ⟨⟨_, rfl⟩, rfl⟩
theorem compact1 (a : Option Addr) (n c : Nat) (hn : n ≤ 1) (w : World) : Calls Try.prog 52 #[.slice a n c] w fun e w' => e = .returned (.slice a n c) ∧ w = w' := by
  have h1 : (n : Int) < 2 := by omega
  go_enter Try.func52, Try.ntmps52
  go_wp2
  go_ret
  exact ⟨rfl, rfl⟩
set_option maxRecDepth 1000000 in
set_option maxHeartbeats 4000000 in
theorem len64_yes (n : Int) (h0 : 0 ≤ n) (h : n ≤ 1) (w : World) : Calls Try.prog 77 #[.int .u64 n] w fun e w' => (∃ k, e = .returned (.int .i64 k)) ∧ w = w' := by
  rcases (by omega : n = 0 ∨ n = 1) with rfl | rfl
  all_goals
    go_enter Try.func77, Try.ntmps77
    go_wp2
    go_ret
    exact ⟨⟨_, rfl⟩, rfl⟩
theorem len_yes (n : Int) (h0 : 0 ≤ n) (h : n ≤ 1) (w : World) : Calls Try.prog 58 #[.int .u64 n] w fun e w' => (∃ k, e = .returned (.int .i64 k)) ∧ w = w' := by
  have hw : IntKind.u64.wrap n = n := IntWalk.u64_in _ (by omega)
  go_enter Try.func58, Try.ntmps58
  go_wp2_with (go_at_call 77; refine (len64_yes _ h0 h _).mono ?_; rintro e w1 ⟨⟨k, rfl⟩, rfl⟩)
  go_ret
  exact ⟨⟨_, rfl⟩, rfl⟩
theorem sort1 (a : Option Addr) (n c : Nat) (hn : n ≤ 1) (w : World) : Calls Try.prog 34 #[.slice a n c] w fun e w' => (∃ v, e = .returned v) ∧ w = w' := by
  have hw : IntKind.u64.wrap (n : Int) = (n : Int) := IntWalk.u64_in _ (by omega)
  have h2 : IntKind.i64.wrap (n : Int) = (n : Int) := IntWalk.i64_in _ (by omega)
  go_enter Try.func34, Try.ntmps34
  go_wp2_with (first
    | (go_at_call 58; refine (len_yes _ (by omega) (by omega) _).mono ?_; rintro e w1 ⟨⟨k, rfl⟩, rfl⟩)
    | (go_at_call 57; refine (pdq1 _ _ _ hn _ _).mono ?_; rintro e w1 ⟨⟨v, rfl⟩, rfl⟩))
  first
    | (go_end0; exact ⟨⟨_, rfl⟩, rfl⟩)
    | trace_state
end Gr
end Go.Proofs.Ytppiohmnbffndaa
