/-
  GrJ: At at one cell; Len.
-/
import Derived.Test.YtppiohmnbffndaaGrI
namespace Go.Proofs.Ytppiohmnbffndaa
open Go.RowKit Go.Shelf
set_option linter.unusedVariables false
set_option linter.unusedSimpArgs false
attribute [local go_sem] Oper.semAt_some
namespace Gr
open Mem
theorem PutG.kd {w w' : World} {G r1 r2 r3 : Nat} (h : PutG w G r1 r2 r3) (hk : Keeps (fun _ => False) w w') : PutG w' G r1 r2 r3 := by
  obtain ⟨h1, h2, ⟨g, cap, h3, h4⟩, h5, h6⟩ := h
  exact ⟨h1.keeps hk (fun h => h), h2.keeps hk (fun h => h), ⟨g, cap, h3.keeps hk (fun h => h), owns_keeps h4 hk (fun _ _ h => h)⟩, h5.keeps hk (fun h => h), h6⟩
theorem Vals.mono {b b' : Nat} {w : World} {VB : Nat} {V : List Nat} (h : Vals b w VB V) (hb : b' ≤ b) : Vals b' w VB V := by
  obtain ⟨h1, a, cp, h2, h3⟩ := h
  exact ⟨Nat.le_trans hb h1, a, cp, h2, own_mono h3 hb⟩
theorem Vals.keeps {b : Nat} {w w' : World} {S : Nat → Prop} {VB : Nat} {V : List Nat} (h : Vals b w VB V) (hk : Keeps S w w') (hS : ∀ k, S k → k < b) : Vals b w' VB V := by
  obtain ⟨h1, a, cp, h2, h3⟩ := h
  exact ⟨h1, a, cp, h2.keeps hk (fun h => by have := hS _ h; omega), owns_keeps h3 hk (fun k hk' h => by have := hS _ h; have := (h3.lt k hk').1; omega)⟩
set_option maxHeartbeats 4000000 in
set_option maxRecDepth 100000 in
theorem at_of (w : World) (G r1 r2 r3 g cap : Nat) (x c : Int) (vv : Value) (V : List Nat) (hx : 0 ≤ x) (hx2 : x ≤ 100) (hV : V.length ≤ 1) (hG : Blk w G 65 [.int .i64 10, .map (some r1), .map (some r2), .map (some r3)]) (hM3 : Mp w r3 #[] 0) (hM0 : Mp w r2 #[⟨.agg #[.int .i32 0, .int .i32 0], .slice (some ⟨g, 0, none⟩) 1 cap, 0⟩] 1) (hO0 : w.ownsRow 0 35 1 (.slice (some ⟨g, 0, none⟩) 1 cap) 1 [.int .u32 4])
    (hlk : ∀ W : World, Mp W r2 #[⟨.agg #[.int .i32 0, .int .i32 0], .slice (some ⟨g, 0, none⟩) 1 cap, 0⟩] 1 → (Instr.lookup 62 (.map (some r2)) (.agg #[.int .i32 c, .int .i32 0]) false).run Try.prog W = .ok vv W)
    (hvv : (vv = .slice (some ⟨g, 0, none⟩) 1 cap ∧ V = [4]) ∨ (vv = .slice none 0 0 ∧ V = []))
    (hline : ∀ (n SB PB QB : Nat) (W : World), Blk W SB 2 [.int .i64 10] → Blk W PB 24 [.int .i32 x, .int .i32 3] → Blk W QB 24 [.int .i32 x, .int .i32 3] → Gives Try.prog n 53 #[.pointer (some ⟨SB, 0, none⟩), .pointer (some ⟨PB, 0, none⟩), .pointer (some ⟨QB, 0, none⟩)] (fun c : Int × Int => #[.agg #[.int .i32 c.1, .int .i32 c.2]]) [(c, 0)] W (fun _ => True)) :
    Calls Try.prog 13 #[.pointer (some ⟨G, 0, none⟩), .agg #[.int .i32 x, .int .i32 3]] w fun e w' => ∃ VB, e = .returned (.func (.func 51) #[] #[.pointer (some ⟨VB, 0, none⟩)]) ∧ Keeps (fun _ => False) w w' ∧ Vals w.heap.size w' VB V := by
  have HL := Lib.hid hlk
  have HV := Lib.hid hvv
  have HLn := Lib.hid hline
  have HF := Lib.hid (And.intro hG (And.intro hM3 (And.intro hM0 hO0)))
  have HP := Lib.hid (Blk.new w 24 [.int .i32 x, .int .i32 3])
  clear hlk hvv hline hG hM3 hM0 hO0
  go_enter Try.func13, Try.ntmps13
  go_wp2_with (first
    | (go_at_call 23; refine (there_yes _ G r1 r2 r3 (HF.out.1.alloc _)).mono ?_; rintro e w1 ⟨rfl, rfl⟩)
    | (go_at_call 29; refine (pin_yes x 3 _ hx (by decide) hx2 (by decide)).mono ?_; rintro e w4 ⟨rfl, hw⟩; have HK4 := Lib.hid (show Keeps (fun _ => False) (w.alloc (.cells #[.int .i32 x, .int .i32 3] 24)) w4 from by rw [← hw]; (repeat (first | exact Keeps.refl _ _ | refine Keeps.alloc ?_ _ | refine Keeps.drew ?_))); clear hw))
  have HSN := Lib.hid (show ∀ W', Keeps (fun _ => False) w4 W' → (∀ i : Nat, W'.cell? ⟨w.heap.size, i, none⟩ = ([.int .i32 x, .int .i32 3] : List Value)[i]?) ∧ (∀ i : Nat, W'.cell? ⟨G, i, none⟩ = ([.int .i64 10, .map (some r1), .map (some r2), .map (some r3)] : List Value)[i]?) from fun W' hk => ⟨(HP.out.keeps (HK4.out.trans hk) (fun h => h)).cell, (HF.out.1.keeps ((((Keeps.refl _ w).alloc _).trans HK4.out).trans hk) (fun h => h)).cell⟩)
  go_region_held3 (fun W => (∀ i : Nat, W.cell? ⟨w.heap.size, i, none⟩ = ([.int .i32 x, .int .i32 3] : List Value)[i]?) ∧ (∀ i : Nat, W.cell? ⟨G, i, none⟩ = ([.int .i64 10, .map (some r1), .map (some r2), .map (some r3)] : List Value)[i]?)) (first | with_reducible assumption | exact HSN.out _ (by first | exact HK6.out | exact HK7.out | (repeat (first | exact Keeps.refl _ _ | refine Keeps.alloc ?_ _ | refine Keeps.drew ?_)))) (first
    | (go_at_call 32; (with_reducible refine (line_any _ _ _).mono ?_); rintro e w6 ⟨rfl, hw6⟩; have HK6 := Lib.hid (show Keeps (fun _ => False) w4 w6 from by rw [← hw6]; (repeat (first | exact Keeps.refl _ _ | refine Keeps.alloc ?_ _ | refine Keeps.drew ?_))); have HB6 := Lib.hid (show Blk w6 (w4.heap.size + 1 + 1) 2 [.int .i64 10] ∧ Blk w6 w4.heap.size 24 [.int .i32 x, .int .i32 3] ∧ Blk w6 (w4.heap.size + 1) 24 [.int .i32 x, .int .i32 3] from by rw [← hw6]; exact ⟨by have := Blk.new ((w4.drew.alloc (.cells #[.int .i32 x, .int .i32 3] 24)).alloc (.cells #[.int .i32 x, .int .i32 3] 24)) 2 [.int .i64 10]; simpa [Blk] using this, ((Blk.new w4.drew 24 [.int .i32 x, .int .i32 3]).alloc _).alloc _, by have := (Blk.new (w4.drew.alloc (.cells #[.int .i32 x, .int .i32 3] 24)) 24 [.int .i32 x, .int .i32 3]).alloc (.cells #[.int .i64 10] 2); simpa [Blk] using this⟩); clear hw6)
    | (go_at_call 31; have hkw := (((Keeps.refl (fun _ => False) w).alloc (.cells #[.int .i32 x, .int .i32 3] 24)).trans HK4.out).trans HK6.out; (with_reducible refine (told_at w6 G r1 r2 r3 g cap _ _ _ c vv V hV (HF.out.1.keeps hkw (fun h => h)) (HF.out.2.1.keeps hkw (fun h => h)) (HF.out.2.2.1.keeps hkw (fun h => h)) (owns_keeps HF.out.2.2.2 hkw (fun _ _ h => h)) HL.out HV.out (fun W1 hk => HLn.out 8 _ _ _ W1 (HB6.out.1.keeps hk (fun h => h)) (HB6.out.2.1.keeps hk (fun h => h)) (HB6.out.2.2.keeps hk (fun h => h)))).mono ?_); rintro e w7 ⟨VB, rfl, hk7, hv7⟩; have HK7 := Lib.hid (HK6.out.trans hk7); have HW := Lib.hid (And.intro (hkw.trans hk7) (And.intro hkw.size hv7)); clear hk7 hv7 hkw))
  all_goals
    go_wp2
    go_ret
    exact ⟨VB, rfl, HW.out.1, Vals.mono HW.out.2.2 HW.out.2.1⟩
theorem at3 (w : World) (G r1 r2 r3 : Nat) (h : PutG w G r1 r2 r3) : Calls Try.prog 13 #[.pointer (some ⟨G, 0, none⟩), .agg #[.int .i32 3, .int .i32 3]] w fun e w' => ∃ VB, e = .returned (.func (.func 51) #[] #[.pointer (some ⟨VB, 0, none⟩)]) ∧ Keeps (fun _ => False) w w' ∧ Vals w.heap.size w' VB [4] := by
  obtain ⟨h1, h2, ⟨g, cap, h3, h4⟩, h5, h6⟩ := h
  exact at_of w G r1 r2 r3 g cap 3 0 (.slice (some ⟨g, 0, none⟩) 1 cap) [4] (by decide) (by decide) (by decide) h1 h5 h3 h4 (fun W hM => lk62y hM) (.inl ⟨rfl, rfl⟩) line33_gives
theorem at50 (w : World) (G r1 r2 r3 : Nat) (h : PutG w G r1 r2 r3) : Calls Try.prog 13 #[.pointer (some ⟨G, 0, none⟩), .agg #[.int .i32 50, .int .i32 3]] w fun e w' => ∃ VB, e = .returned (.func (.func 51) #[] #[.pointer (some ⟨VB, 0, none⟩)]) ∧ Keeps (fun _ => False) w w' ∧ Vals w.heap.size w' VB [] := by
  obtain ⟨h1, h2, ⟨g, cap, h3, h4⟩, h5, h6⟩ := h
  exact at_of w G r1 r2 r3 g cap 50 5 (.slice none 0 0) [] (by decide) (by decide) (by decide) h1 h5 h3 h4 (fun W hM => lk62n hM) (.inr ⟨rfl, rfl⟩) line503_gives
theorem len61 {W : World} {r k : Nat} {es : Array MapEntry} (h : Mp W r es k) (ty : TypeId) : (Builtin.len_ #[61] ty #[.map (some r)]).run Try.prog W = .ok (.int .i64 (es.size : Int)) W := by
  simp [Builtin.len_, Builtin.lenOf, run_underlying Try.underlying61, MapKept.run_getObj_map h, Result.andThen, goInt]
theorem len_one (w : World) (G r1 r2 r3 : Nat) (h : PutG w G r1 r2 r3) : Calls Try.prog 15 #[.pointer (some ⟨G, 0, none⟩)] w fun e w' => e = .returned (.int .i64 1) ∧ w = w' := by
  have hl := len61 h.2.1
  simp only [List.size_toArray, List.length_cons, List.length_nil] at hl
  have HT := Lib.hid h.1
  have cG := h.1.cell
  clear h
  go_enter Try.func15, Try.ntmps15
  go_wp2_with (go_at_call 23; refine (there_yes _ G r1 r2 r3 HT.out).mono ?_; rintro e w1 ⟨rfl, rfl⟩)
  go_ret
  exact ⟨rfl, rfl⟩
end Gr
end Go.Proofs.Ytppiohmnbffndaa
