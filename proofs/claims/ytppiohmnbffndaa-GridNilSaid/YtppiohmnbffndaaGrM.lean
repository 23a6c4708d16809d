/-
  GrM: empty.
-/
import Derived.Test.YtppiohmnbffndaaGrL
namespace Go.Proofs.Ytppiohmnbffndaa
open Go.RowKit Go.Shelf
set_option linter.unusedVariables false
set_option linter.unusedSimpArgs false
attribute [local go_sem] Oper.semAt_some
namespace Gr
open Mem Tree
set_option maxHeartbeats 4000000 in
set_option maxRecDepth 100000 in
theorem empty_any (p : Option Addr) (kind id x0 y0 x1 y1 px py qx qy : Int) (w : World) (h : NoG w p) :
    Calls Try.prog 22 #[.pointer p, .agg #[.int .i64 kind, .int .u32 id, .int .i32 x0, .int .i32 y0, .int .i32 x1, .int .i32 y1, .int .i32 px, .int .i32 py, .int .i32 qx, .int .i32 qy]] w (Gave (.bool true) w) := by
  have heq := eq_seq
  have k2 : Keeps (fun _ => False) w ((w.alloc (.cells #[.int .i64 kind, .int .u32 id, .int .i32 x0, .int .i32 y0, .int .i32 x1, .int .i32 y1, .int .i32 px, .int .i32 py, .int .i32 qx, .int .i32 qy] 52)).alloc (.cells #[.bool false] 4)) := by (repeat (first | exact Keeps.refl _ _ | refine Keeps.alloc ?_ _ | refine Keeps.drew ?_))
  have b1 := (Blk.new w 52 [.int .i64 kind, .int .u32 id, .int .i32 x0, .int .i32 y0, .int .i32 x1, .int .i32 y1, .int .i32 px, .int .i32 py, .int .i32 qx, .int .i32 qy]).alloc (.cells #[.bool false] 4)
  have b2 := Blk.new (w.alloc (.cells #[.int .i64 kind, .int .u32 id, .int .i32 x0, .int .i32 y0, .int .i32 x1, .int .i32 y1, .int .i32 px, .int .i32 py, .int .i32 qx, .int .i32 qy] 52)) 4 [.bool false]
  simp only [World.size_alloc] at b2
  have HB := Lib.hid (And.intro b1 (And.intro b2 (And.intro (h.keeps k2) k2)))
  have cS := b1.cell
  clear b1 b2 k2 h
  refine (callsIn_wide (n := 9)).1 ?_
  refine callsIn_of_wp_marks Try.func22 rfl trivial ?_ rfl
  simp only [Try.ntmps22, List.size_toArray, List.length_cons, List.length_nil, Nat.reduceAdd, Nat.reduceSub, Array.replicate_succ, Array.replicate_zero, List.push_toArray, List.append_toArray, List.nil_append, List.cons_append]
  gi_wp2_with (first
    | (refine ⟨trivial, ?_⟩; gi_at_call 10; (with_reducible refine (callsIn_wide.2 (put_no p _ _ _ _ _ _ HB.out.2.2.1)).mono ?_); rintro e w3 ⟨rfl, hk3⟩; have HK3 := Lib.hid hk3; have HG3 := Lib.hid (HB.out.2.2.1.keeps hk3); have cS3 := (HB.out.1.keeps hk3 (fun h => h)).cell; clear hk3 cS)
    | (refine ⟨trivial, ?_⟩; gi_at_call 11; (with_reducible refine (callsIn_wide.2 (del_no p _ _ HG3.out)).mono ?_); rintro e w4 ⟨rfl, hk4⟩; have HK4 := Lib.hid (HK3.out.trans hk4); have HG4 := Lib.hid (HG3.out.keeps hk4); have cS4 := (HB.out.1.keeps (HK3.out.trans hk4) (fun h => h)).cell; clear hk4 cS3)
    | (refine ⟨trivial, ?_⟩; gi_at_call 15; (with_reducible refine (callsIn_wide.2 (len_no p _ HG4.out)).mono ?_); rintro e w5 ⟨rfl, rfl⟩)
    | (refine ⟨trivial, ?_⟩; gi_at_call 42; (with_reducible refine (callsIn_wide.2 (apart_no p _ HG4.out)).mono ?_); rintro e w5 ⟨rfl, rfl⟩)
    | (refine ⟨trivial, ?_⟩; gi_at_call 16; (with_reducible refine (callsIn_wide.2 (cells_no p _ HG4.out)).mono ?_); rintro e w5 ⟨rfl, rfl⟩))
  have HSN := Lib.hid (show ∀ W', Keeps (fun _ => False) w4 W' → (∀ i : Nat, W'.cell? ⟨w.heap.size, i, none⟩ = ([.int .i64 kind, .int .u32 id, .int .i32 x0, .int .i32 y0, .int .i32 x1, .int .i32 y1, .int .i32 px, .int .i32 py, .int .i32 qx, .int .i32 qy] : List Value)[i]?) from fun W' hk => (HB.out.1.keeps (HK4.out.trans hk) (fun h => h)).cell)
  refine wpIn_wide.2 ?_
  go_region_held3 (fun W => ∀ i : Nat, W.cell? ⟨w.heap.size, i, none⟩ = ([.int .i64 kind, .int .u32 id, .int .i32 x0, .int .i32 y0, .int .i32 x1, .int .i32 y1, .int .i32 px, .int .i32 py, .int .i32 qx, .int .i32 qy] : List Value)[i]?) (first | with_reducible assumption | exact HSN.out _ (by first | exact HK5.out | exact HK6.out | (repeat (first | exact Keeps.refl _ _ | refine Keeps.alloc ?_ _ | refine Keeps.drew ?_)))) (first
    | (go_at_call 13; (with_reducible refine (at_no p _ _ _ (HG4.out.keeps (by first | exact HK6.out | (repeat (first | exact Keeps.refl _ _ | refine Keeps.alloc ?_ _ | refine Keeps.drew ?_))))).mono ?_); rintro e w5 ⟨V1, rfl, hk5, hb5, hz5⟩; have HK5 := Lib.hid (Keeps.trans (by first | exact HK6.out | (repeat (first | exact Keeps.refl _ _ | refine Keeps.alloc ?_ _ | refine Keeps.drew ?_))) hk5 : Keeps (fun _ => False) w4 w5); have HV5 := Lib.hid (And.intro hb5 hz5); clear hk5 hb5 hz5)
    | (go_at_call 14; (with_reducible refine (crossing_no p _ _ _ _ _ (HG4.out.keeps (by first | exact HK5.out | (repeat (first | exact Keeps.refl _ _ | refine Keeps.alloc ?_ _ | refine Keeps.drew ?_))))).mono ?_); rintro e w6 ⟨V2, rfl, hk6, hb6, hz6⟩; have HK6 := Lib.hid (Keeps.trans (by first | exact HK5.out | (repeat (first | exact Keeps.refl _ _ | refine Keeps.alloc ?_ _ | refine Keeps.drew ?_))) hk6 : Keeps (fun _ => False) w4 w6); have HV6 := Lib.hid (And.intro hk6 (And.intro hb6 hz6)); clear hk6 hb6 hz6))
  have hb1 := HV5.out.1.keeps HV6.out.1 (fun h => h)
  have hb2 := HV6.out.2.1
  have hk6 := HB.out.2.2.2.trans (HK4.out.trans HK6.out)
  have hbB := HB.out.2.1.keeps (HK4.out.trans HK6.out) (fun h => h)
  gi_wp2
  refine wpIn_range (gf := 51) (lb := #[.pointer (some ⟨V1, 0, none⟩)]) (encs := fun x : Nat => #[.int .u32 (x : Int)]) (xs := []) (A := fun S => ∀ k, S k → ¬ rowOf (.slice none 0 0) k) rfl (enters_of Try.func51 (by kernel_rfl) rfl)
    (fun W1 hk => values1_gives 8 V1 (.slice none 0 0) [] W1 (by decide) (by have := (hb1.keeps hk (fun h => h)).cell 0; simpa using this) ⟨none, 0, rfl, fun i x hx => by simp at hx⟩) (fun _ => rfl)
    (fun _ S W => Keeps (fun _ => False) w6 W ∧ ∀ k, ¬ S k) (fun _ _ _ _ => False) (fun pre S X W W1 h hin hk hd ht => ⟨h.1.then hk (fun i hi hT => absurd (ht i hT) (by omega)), h.2⟩) (fun _ _ _ _ _ _ h => h.elim)
    (fun k => False) (fun k hk => hk.elim) ⟨Keeps.refl _ _, fun _ h => h⟩ (fun S hS k hk hr => by obtain ⟨a, n, c, e, _⟩ := hr; simp at e)
    (fun _ _ _ => True) (fun _ _ _ _ _ h _ _ _ _ => trivial) ?assign ?body ?done ?stop
  case assign => intro l pre x rest S W hxs; simp at hxs
  case body => intro l pre x rest a1 S W hxs; simp at hxs
  case stop =>
    intro D c pre S' W' hD hnD hf hin hpre h
    exact h.elim
  case done =>
    rintro D S' W' hD hnD hf hin ⟨k7, _⟩ hDD
    have hb2 := hb2.keeps k7 (fun h => h)
    have hk7 := hk6.trans k7
    have hbB := hbB.keeps k7 (fun h => h)
    have HX := Lib.hid (And.intro hD (And.intro hnD hDD))
    have HSZ := Lib.hid k7.size
    clear hD hnD hDD hf hin k7 hb1 hk6
    gi_wp2
    refine wpIn_range (gf := 51) (lb := #[.pointer (some ⟨V2, 0, none⟩)]) (encs := fun x : Nat => #[.int .u32 (x : Int)]) (xs := []) (A := fun S => ∀ k, S k → ¬ rowOf (.slice none 0 0) k) rfl (enters_of Try.func51 (by kernel_rfl) rfl)
      (fun W1 hk => values1_gives 8 V2 (.slice none 0 0) [] W1 (by decide) (by have := (hb2.keeps hk (fun h => h)).cell 0; simpa using this) ⟨none, 0, rfl, fun i x hx => by simp at hx⟩) (fun _ => rfl)
      (fun _ S W => Keeps (fun _ => False) W' W ∧ ∀ k, ¬ S k) (fun _ _ _ _ => False) (fun pre S X W W1 h hin hk hd ht => ⟨h.1.then hk (fun i hi hT => absurd (ht i hT) (by omega)), h.2⟩) (fun _ _ _ _ _ _ h => h.elim)
      (fun k => False) (fun k hk => hk.elim) ⟨Keeps.refl _ _, fun _ h => h⟩ (fun S hS k hk hr => by obtain ⟨a, n, c, e, _⟩ := hr; simp at e)
      (fun _ _ _ => True) (fun _ _ _ _ _ h _ _ _ _ => trivial) ?assign ?body ?done ?stop
    case assign => intro l pre x rest S W hxs; simp at hxs
    case body => intro l pre x rest a1 S W hxs; simp at hxs
    case stop =>
      intro D c pre S' W' hD hnD hf hin hpre h
      exact h.elim
    case done =>
      rintro D2 S2 W2 hD2 hnD2 hf2 hin2 ⟨k8, _⟩ hDD2
      have hbB := hbB.keeps k8 (fun h => h)
      have hk8 := hk7.trans k8
      obtain ⟨hD, hnD, hDD⟩ := HX.out
      have hDl : D < W'.heap.size := (Array.getElem?_eq_some_iff.1 hDD).1
      have hDW := (k8.block D hDl (fun h => h)).trans hDD
      have hBD : w.heap.size + 1 ≠ D := fun e => by unfold Blk at hbB; rw [e, hDW] at hbB; cases hbB
      have hBD2 : w.heap.size + 1 ≠ D2 := fun e => by unfold Blk at hbB; rw [e, hDD2] at hbB; cases hbB
      have c4 := hbB.cell
      have f4 := hbB.frozen
      have HY := Lib.hid (And.intro hk8 (And.intro hDW (And.intro hDD2 (And.intro hbB (And.intro hD (And.intro hD2 hDl))))))
      clear hk8 hk7 hDW hDD2 hbB hD hnD hDD hD2 hnD2 hf2 hin2 k8 hb2 hDl
      gi_wp2
      obtain ⟨hk8, hDW, hDD2, hbB, hD, hD2, hDl⟩ := HY.out
      have hfin := hbB.set_ 0 (.bool true)
      have e1 := (Below.heap_setCell W2 ⟨w.heap.size + 1, 0, none⟩ (.bool true) D2 (Ne.symm hBD2)).trans hDD2
      have e2 := (Below.heap_setCell W2 ⟨w.heap.size + 1, 0, none⟩ (.bool true) D (Ne.symm hBD)).trans hDW
      have kp := keeps_putObj (W2.setCell ⟨w.heap.size + 1, 0, none⟩ (.bool true)) D2 (.deferred none)
      have hne : D ≠ D2 := by omega
      have e3 := (kp.block D (Array.getElem?_eq_some_iff.1 e2).1 hne).trans e2
      have kp2 := keeps_putObj ((W2.setCell ⟨w.heap.size + 1, 0, none⟩ (.bool true)).putObj D2 (.deferred none)) D (.deferred none)
      refine ⟨by simp, .inl ⟨_, _, rfl, run_takeDeferred e1, ?_⟩⟩
      refine ⟨by simp, .inl ⟨_, _, rfl, run_takeDeferred e3, ?_⟩⟩
      have hc := ((hfin.keeps kp hBD2).keeps kp2 hBD).cell 0
      have hz := HB.out.2.2.2.size
      have hz4 := HK4.out.size
      have hz6 := HK6.out.size
      have hz7 := HSZ.out
      simp only [World.size_alloc] at hz hz4
      refine ⟨.bool true, ?_, rfl, ?_⟩
      · simp only [List.set_cons_zero, List.getElem?_cons_zero] at hc
        simp [results, Try.results22, go_sem, hc]
      · exact (((hk8.setCell (p := ⟨w.heap.size + 1, 0, none⟩) (fun h => by simp at h; omega) _).then kp (fun i hi e => by have e' : i = D2 := e; omega)).then kp2 (fun i hi e => by have e' : i = D := e; omega))
end Gr
end Go.Proofs.Ytppiohmnbffndaa
