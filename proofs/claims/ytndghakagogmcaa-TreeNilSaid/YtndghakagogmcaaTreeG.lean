/-
  TreeNil: no tree, and a zero one.
-/
import Derived.Test.YtndghakagogmcaaTreeF
import Derived.Deep.RegionHeld3
import Derived.Shelf.Abstract
namespace Go.Proofs.Ytndghakagogmcaa
open Go.RowKit Go.Shelf
set_option linter.unusedVariables false
attribute [local go_sem] Oper.semAt_some
namespace Tree
open Mem
def pairVals (x : Nat × Bx) : Array Value := #[.int .u32 (x.1 : Int), .agg #[.int .i32 x.2.x0, .int .i32 x.2.y0, .int .i32 x.2.x1, .int .i32 x.2.y1]]
set_option maxRecDepth 100000 in
theorem allno_gives (n B : Nat) (p : Option Addr) (W : World) (hB : Blk W B 48 [.pointer p]) (h : NoTree W p) :
    Gives Try.prog n 62 #[.pointer (some ⟨B, 0, none⟩)] pairVals [] W (fun _ => True) := by
  refine Gives.any (n := 8) ?_
  intro l J Jx S hA hJ hJx hin hY h0
  have c1 : ∀ o1 o2, ((W.alloc o1).alloc o2).cell? ⟨B, 0, none⟩ = some (.pointer p) := fun o1 o2 => ((hB.alloc o1).alloc o2).cell 0
  refine callsIn_of_wp Try.func62 rfl trivial ?_ rfl
  simp only [Try.ntmps62, List.size_toArray, List.length_cons, List.length_nil, Nat.reduceAdd, Nat.reduceSub, Array.replicate_succ, Array.replicate_zero, List.push_toArray, List.append_toArray, List.nil_append, List.cons_append]
  have HJ := Lib.hid hJ; clear hJ hY
  have HX := Lib.hid hJx; clear hJx
  have H0 := Lib.hid h0; clear h0
  gi_wp2_with (refine ⟨trivial, ?_⟩; gi_at_call 41; refine (callsIn_wide.2 (there_no p _ (h.keeps (by repeat (first | exact Keeps.refl _ _ | apply Keeps.alloc))))).mono ?_; rintro e w1 ⟨rfl, rfl⟩)
  refine wpIn_loop_rounds 1 ?_
  rw [roundsIn_succ]
  gi_wp2
  go_end0
  exact ⟨⟨_, rfl⟩, S, Foot.same (((Keeps.refl _ W).alloc _).alloc _), hin.mono (by simp; omega), .inl (HJ.out [] S (fun _ => False) W _ H0.out hin (((Keeps.refl _ W).alloc _).alloc _) (fun _ _ h => h) (fun _ h => h.elim))⟩
theorem told_no (B1 B2 : Nat) (p : Option Addr) (b : Bx) (w : World) (h1 : Blk w B1 48 [.pointer p]) (h2 : Blk w B2 47 [.int .i32 b.x0, .int .i32 b.y0, .int .i32 b.x1, .int .i32 b.y1]) (hn : NoTree w p) :
    Calls Try.prog 27 #[.func (.func 47) #[] #[.pointer (some ⟨B1, 0, none⟩), .pointer (some ⟨B2, 0, none⟩)], .int .i64 0] w (Fresh w []) :=
  told_any 47 _ 0 [] w (fun _ => True) (by simp) (enters_of Try.func47 (by kernel_rfl) rfl)
    (fun W1 hk => range1_gives 8 B1 B2 p b [] W1 (by simp) (h1.keeps hk id) (h2.keeps hk id) (found_no p _ _ _ _ W1 (hn.keeps hk))) (fun _ _ => trivial)
def NS (w0 W : World) (p : Option Addr) (SB R4 B5 D : Nat) (st : List Value) : Prop :=
  Blk W SB 75 st ∧ NoTree W p ∧ Blk W R4 4 [.bool false] ∧ Blk W B5 47 [.int .i32 0, .int .i32 0, .int .i32 0, .int .i32 0] ∧ W.heap[D]? = some (.deferred (some [])) ∧ Keeps (fun _ => False) w0 W
theorem NS.kd {w0 W W1 W2 : World} {p : Option Addr} {SB R4 B5 D : Nat} {st : List Value} (h : NS w0 W p SB R4 B5 D st) (k : Keeps (fun _ => False) W1 W2) (he : W1.heap = W.heap := by rfl) (h1 : W1.os = W.os := by rfl) (h2 : W1.tape = W.tape := by rfl) (h3 : W1.output = W.output := by rfl) :
    NS w0 W2 p SB R4 B5 D st := by
  obtain ⟨a, b, c, d, e, f⟩ := h
  refine ⟨a.kd k he, ?_, c.kd k he, d.kd k he, ?_, f.td k (fun _ _ h => h) he h1 h2 h3⟩
  · rcases b with b | ⟨g, hg, hb⟩
    · exact .inl b
    · exact .inr ⟨g, hg, hb.kd k he⟩
  · rw [← he] at e
    exact (k.block D (Array.getElem?_eq_some_iff.1 e).1 id).trans e
theorem eq_all (gf : Nat) (lb : Array Value) (W : World) : (binOp .eql 105 (.func (.func gf) #[] lb) .nilFunc).run Try.prog W = .ok (.bool false) W := by kernel_rfl
set_option maxHeartbeats 2000000 in
set_option maxRecDepth 100000 in
theorem nothing_any (p : Option Addr) (kind idn px py qx qy nn : Int) (bx : Bx) (w : World) (hn : NoTree w p) :
    Calls Try.prog 34 #[.pointer p, .agg #[.int .i64 kind, .int .u32 idn, .int .i32 bx.x0, .int .i32 bx.y0, .int .i32 bx.x1, .int .i32 bx.y1, .int .i32 px, .int .i32 py, .int .i32 qx, .int .i32 qy, .int .i64 nn]] w (Gave (.bool true) w) := by
  refine (callsIn_wide (n := 9)).1 ?_
  refine callsIn_of_wp_marks Try.func34 rfl trivial ?_ rfl
  simp only [Try.ntmps34, List.size_toArray, List.length_cons, List.length_nil, Nat.reduceAdd, Nat.reduceSub, Array.replicate_succ, Array.replicate_zero, List.push_toArray, List.append_toArray, List.nil_append, List.cons_append]
  refine wpIn_wide.2 ?_
  have heq := eq_all
  go_wp2_with (first
    | (go_at_call 31; refine (box_no p idn _ (hn.keeps (by repeat (first | exact Keeps.refl _ _ | apply Keeps.alloc)))).mono ?_; rintro e w1 ⟨rfl, hk1⟩)
    | (go_at_call 51; refine (all_any p _).mono ?_; rintro e w2 ⟨rfl, rfl⟩))
  have hz1 := hk1.size
  simp only [World.size_alloc] at hz1
  have hkA : Keeps (fun _ => False) w ((w1.alloc (.cells #[.int .i32 0, .int .i32 0, .int .i32 0, .int .i32 0] 47)).alloc (.cells #[.pointer p] 48)) := (((((Keeps.refl _ w).alloc _).alloc _).trans hk1).alloc _).alloc _
  have hSB : Blk ((w1.alloc (.cells #[.int .i32 0, .int .i32 0, .int .i32 0, .int .i32 0] 47)).alloc (.cells #[.pointer p] 48)) w.heap.size 75 [.int .i64 kind, .int .u32 idn, .int .i32 bx.x0, .int .i32 bx.y0, .int .i32 bx.x1, .int .i32 bx.y1, .int .i32 px, .int .i32 py, .int .i32 qx, .int .i32 qy, .int .i64 nn] := (((((Blk.new w 75 [.int .i64 kind, .int .u32 idn, .int .i32 bx.x0, .int .i32 bx.y0, .int .i32 bx.x1, .int .i32 bx.y1, .int .i32 px, .int .i32 py, .int .i32 qx, .int .i32 qy, .int .i64 nn]).alloc _).keeps hk1 id)).alloc _).alloc _
  have hR4 : Blk ((w1.alloc (.cells #[.int .i32 0, .int .i32 0, .int .i32 0, .int .i32 0] 47)).alloc (.cells #[.pointer p] 48)) (w.heap.size + 1) 4 [.bool false] := by
    have := (((Blk.new (w.alloc (.cells #[.int .i64 kind, .int .u32 idn, .int .i32 bx.x0, .int .i32 bx.y0, .int .i32 bx.x1, .int .i32 bx.y1, .int .i32 px, .int .i32 py, .int .i32 qx, .int .i32 qy, .int .i64 nn] 75)) 4 [.bool false]).keeps (by simpa using hk1) id).alloc (.cells #[.int .i32 0, .int .i32 0, .int .i32 0, .int .i32 0] 47)).alloc (.cells #[.pointer p] 48)
    simpa using this
  have hB5 : Blk ((w1.alloc (.cells #[.int .i32 0, .int .i32 0, .int .i32 0, .int .i32 0] 47)).alloc (.cells #[.pointer p] 48)) w1.heap.size 47 [.int .i32 0, .int .i32 0, .int .i32 0, .int .i32 0] := (Blk.new w1 47 [.int .i32 0, .int .i32 0, .int .i32 0, .int .i32 0]).alloc _
  have hBA : Blk ((w1.alloc (.cells #[.int .i32 0, .int .i32 0, .int .i32 0, .int .i32 0] 47)).alloc (.cells #[.pointer p] 48)) (w1.heap.size + 1) 48 [.pointer p] := by
    have := Blk.new (w1.alloc (.cells #[.int .i32 0, .int .i32 0, .int .i32 0, .int .i32 0] 47)) 48 [.pointer p]
    simpa using this
  have hnA := hn.keeps hkA
  have hkA' := hkA
  generalize (w1.alloc (.cells #[.int .i32 0, .int .i32 0, .int .i32 0, .int .i32 0] 47)).alloc (.cells #[.pointer p] 48) = w2 at *
  generalize w1.heap.size + 1 = BA at *
  generalize w1.heap.size = B5 at *
  refine (wpIn_wide (n := 9)).1 (wpIn_range (gf := 62) (encs := pairVals) (xs := []) (A := fun _ => True) rfl (enters_of Try.func62 (by kernel_rfl) rfl)
    (fun W1 hk => allno_gives 8 BA p W1 (hBA.keeps hk id) (hnA.keeps hk)) (fun _ => rfl) (fun _ _ _ => True) (fun _ _ _ _ => False) (fun _ _ _ _ _ h _ _ _ _ => h) (fun _ _ _ _ _ _ h _ _ _ _ => h)
    (fun _ => False) (fun _ h => h.elim) trivial (fun _ _ => trivial) (fun _ _ _ => True) (fun _ _ _ _ _ h _ _ _ _ => h) ?assign ?body ?done ?stop)
  case assign => intro l pre x rest S W hxs; simp at hxs
  case body => intro l pre x rest a1 S W hxs; simp at hxs
  case stop =>
    intro D c pre S' W' hD hnD hf hin hpre h
    exact h.elim
  case done =>
    intro D S' W' hD hnD hf hin _ hDD
    have HN : NS w W' p w.heap.size (w.heap.size + 1) B5 D [.int .i64 kind, .int .u32 idn, .int .i32 bx.x0, .int .i32 bx.y0, .int .i32 bx.x1, .int .i32 bx.y1, .int .i32 px, .int .i32 py, .int .i32 qx, .int .i32 qy, .int .i64 nn] :=
      ⟨hSB.keeps hf.1 id, hnA.keeps hf.1, hR4.keeps hf.1 id, hB5.keeps hf.1 id, hDD, hkA.trans hf.1⟩
    clear hSB hR4 hB5 hBA hnA hkA
    have cSB := HN.1.cell
    go_wp2
    go_region_held3 (fun W => ∀ i, W.cell? ⟨w.heap.size, i, none⟩ = ([.int .i64 kind, .int .u32 idn, .int .i32 bx.x0, .int .i32 bx.y0, .int .i32 bx.x1, .int .i32 bx.y1, .int .i32 px, .int .i32 py, .int .i32 qx, .int .i32 qy, .int .i64 nn] : List Value)[i]?) (exact cSB) (first
      | (go_at_call 32; refine (at_any p px py _).mono ?_; rintro e w3 ⟨B1, B2, rfl, h1, h2, hk, _, _⟩; have HN := HN.kd hk; have cSB := HN.1.cell)
      | (go_at_call 23; refine (range_any p bx.x0 bx.y0 bx.x1 bx.y1 _).mono ?_; rintro e w3 ⟨B1, B2, rfl, h1, h2, hk, _, _⟩; have HN := HN.kd hk; have cSB := HN.1.cell)
      | (go_at_call 33; refine (crossing_any p px py qx qy _).mono ?_; rintro e w3 ⟨B1, B2, rfl, h1, h2, hk, _, _⟩; have HN := HN.kd hk; have cSB := HN.1.cell)
      | (go_at_call 27; refine (told_no _ _ p ⟨_, _, _, _⟩ _ (by exact h1) (by exact h2) (by exact HN.2.1)).mono ?_; rintro e w4 ⟨v, rfl, hO, hk⟩; obtain ⟨a, c, rfl⟩ := own_slice hO; have HN := HN.kd hk; have cSB := HN.1.cell))
    have c5 := HN.2.2.2.1.cell
    have c4 := HN.2.2.1.cell
    have f4 := HN.2.2.1.frozen
    go_wp2_with (first
      | (go_at_call 20; refine (put_no p idn bx.x0 bx.y0 bx.x1 bx.y1 _ (by exact HN.2.1)).mono ?_; rintro e w3 ⟨rfl, hk⟩; have HN := HN.kd hk; have cSB := HN.1.cell; have c5 := HN.2.2.2.1.cell; have c4 := HN.2.2.1.cell; have f4 := HN.2.2.1.frozen)
      | (go_at_call 24; refine (del_no p idn _ (by exact HN.2.1)).mono ?_; rintro e w4 ⟨rfl, rfl⟩)
      | (go_at_call 29; refine (len_no p _ (by exact HN.2.1)).mono ?_; rintro e w4 ⟨rfl, rfl⟩)
      | (go_at_call 30; refine (depth_no p _ (by exact HN.2.1)).mono ?_; rintro e w4 ⟨rfl, rfl⟩))
    have hne : w.heap.size + 1 ≠ D := fun e => by
      have h1 := HN.2.2.1
      have h2 := HN.2.2.2.2.1
      unfold Blk at h1
      rw [e, h2] at h1
      cases h1
    have hfin := HN.2.2.1.set_ 0 (.bool true)
    have hD' := (Below.heap_setCell _ ⟨w.heap.size + 1, 0, none⟩ (.bool true) D (Ne.symm hne)).trans HN.2.2.2.2.1
    refine ⟨by simp, .inl ⟨_, _, rfl, run_takeDeferred hD', ?_⟩⟩
    have hc := (hfin.keeps (keeps_putObj _ D (.deferred none)) hne).cell 0
    refine ⟨.bool true, ?_, rfl, ?_⟩
    · simp only [List.set_cons_zero, List.getElem?_cons_zero] at hc
      simp [results, Try.results34, go_sem, hc]
    · exact (HN.2.2.2.2.2.setCell (p := ⟨w.heap.size + 1, 0, none⟩) (by simp) _).then (keeps_putObj _ D _) (fun i hi e => by have := hkA'.size; omega)
end Tree
end Go.Proofs.Ytndghakagogmcaa
