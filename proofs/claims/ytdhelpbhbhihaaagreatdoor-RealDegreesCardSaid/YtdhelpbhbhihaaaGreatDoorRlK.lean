/-
  RlK: the text of -1.5: ftoa64 and FormatFloat.
-/
import Derived.Test.YtdhelpbhbhihaaaGreatDoorRlJ
import Derived.Laws.BytesString
import Derived.Deep.RegionHeld3
namespace Go.Proofs.YtdhelpbhbhihaaaGreatDoor
open Go.RowKit Go.Shelf Go.Sort
set_option linter.unusedVariables false
set_option linter.unusedSimpArgs false
attribute [local go_sem] Oper.semAt_some
namespace Rl
open Mem
theorem ext_fbits (b : Nat) (W : World) : (callFunc 129 #[.float .f64 b]).run Tryz.prog W = .ok (.value (.int .u64 b)) W := by
  rw [run_callFunc_extern Tryz.func129 (by kernel_rfl) (by kernel_rfl) (by kernel_rfl) (e := Extern.MathFloatBits.float64bits) (by kernel_rfl)]
  rfl
abbrev z32 : List Value := [.int .u8 0, .int .u8 0, .int .u8 0, .int .u8 0, .int .u8 0, .int .u8 0, .int .u8 0, .int .u8 0, .int .u8 0, .int .u8 0, .int .u8 0, .int .u8 0, .int .u8 0, .int .u8 0, .int .u8 0, .int .u8 0, .int .u8 0, .int .u8 0, .int .u8 0, .int .u8 0, .int .u8 0, .int .u8 0, .int .u8 0, .int .u8 0, .int .u8 0, .int .u8 0, .int .u8 0, .int .u8 0, .int .u8 0, .int .u8 0, .int .u8 0, .int .u8 0]
abbrev arr32 : Obj := .cells z32.toArray 149
theorem z32_get (j : Nat) (hj : j < 16) : z32[j]? = some (encB (Array.replicate 16 (0 : UInt8))[j]!) := by
  have : j = 0 ∨ j = 1 ∨ j = 2 ∨ j = 3 ∨ j = 4 ∨ j = 5 ∨ j = 6 ∨ j = 7 ∨ j = 8 ∨ j = 9 ∨ j = 10 ∨ j = 11 ∨ j = 12 ∨ j = 13 ∨ j = 14 ∨ j = 15 := by omega
  rcases this with rfl | rfl | rfl | rfl | rfl | rfl | rfl | rfl | rfl | rfl | rfl | rfl | rfl | rfl | rfl | rfl <;> rfl
theorem holds32 {w : World} {b : Nat} (h : Blk w b 149 z32) : Holds encB w b 0 (Array.replicate 16 0) := by
  intro j hj
  have hj16 : j < 16 := by simpa using hj
  have hc := h.cell j
  have hf := h.frozen j
  rw [z32_get j hj16] at hc
  have e0 : ((0 + j : Nat) : Int) = (j : Int) := by omega
  exact ⟨by simpa using hc, by simpa using hf⟩
theorem Tabs.drew {w : World} (h : Tabs w) : Tabs w.drew := ⟨h.hi, h.lo, h.size, h.ten, h.sizet⟩
theorem join_one {P : Program} {c : Code} {K : Act → World → Prop} {Q : Exit → Act → World → Prop} {a A : Act} {w W : World} (h : c.wp P (Exit.then (fun a' w' => a' = A ∧ w' = W) (fun _ _ _ => False)) a w) (k : K A W) : c.wp P (Exit.then K Q) a w :=
  Code.wp_mono (fun e a' w' he => by
    cases e with
    | normal => obtain ⟨rfl, rfl⟩ := he; exact k
    | _ => exact he.elim) h
theorem join_w {P : Program} {c : Code} {K : Act → World → Prop} {Q : Exit → Act → World → Prop} {a A : Act} {w : World} (S : World → Prop) (h : c.wp P (Exit.then (fun a' w' => a' = A ∧ S w') (fun _ _ _ => False)) a w) (k : ∀ W, S W → K A W) : c.wp P (Exit.then K Q) a w :=
  Code.wp_mono (fun e a' w' he => by
    cases e with
    | normal => obtain ⟨rfl, h2⟩ := he; exact k _ h2
    | _ => exact he.elim) h
theorem two_of {w : World} {b : Nat} {t : TypeId} {cs : List Value} {x y : Value} (h : Blk w b t cs) (h0 : w.cell? ⟨b, 0, none⟩ = some x) (h1 : w.cell? ⟨b, 1, none⟩ = some y) : ∃ rest, cs = x :: y :: rest := by
  have e0 := (h.cell 0).symm.trans h0
  have e1 := (h.cell 1).symm.trans h1
  cases cs with
  | nil => simp at e0
  | cons a l => cases l with
    | nil => simp at e1
    | cons c l => simp at e0 e1; exact ⟨l, by rw [e0, e1]⟩
set_option maxHeartbeats 1000000 in
set_option maxRecDepth 20000 in
theorem ftoa_at (w : World) (ht : Tabs w) (base : Nat) (hb : base ≤ w.heap.size) (la : Option Addr) (lc : Nat) (hO : w.ownsRow base 5 1 (.slice la 0 lc) 0 (([] : List UInt8).flatMap bf)) : Calls Tryz.prog 107 #[.slice la 0 lc, .float .f64 13832806255468478464, .int .u8 103, .int .i64 (-1)] w fun e w' => ∃ la' lc', e = .returned (.slice la' 4 lc') ∧ w'.ownsRow base 5 1 (.slice la' 4 lc') 4 (([45, 49, 46, 53] : List UInt8).flatMap bf) ∧ Keeps (fun k => base ≤ k) w w' := by
  have hd : ∀ W, (callFunc 129 #[.float .f64 13832806255468478464]).run Tryz.prog W = .ok (.value (.int .u64 13832806255468478464)) W := fun W => ext_fbits 13832806255468478464 W
  have hA : Blk (w.alloc arr32).drew w.heap.size 149 z32 := Blk.new w _ _
  have hs1 := hA.lt
  have ht1 := ht.below ((Below.refl _ _).alloc (Nat.le_refl _) arr32).drew
  have c1 := short_at (w.alloc arr32).drew ht1
  have hB2 := short_below (w.alloc arr32).drew
  have hK2 : Keeps (fun k => base ≤ k) w (preW ((w.alloc arr32).drew.alloc scl) (w.alloc arr32).drew.heap.size) := ((Keeps.refl _ w).alloc arr32).drew.then (Keeps.of_below hB2) (fun i _ h => by omega)
  generalize preW ((w.alloc arr32).drew.alloc scl) (w.alloc arr32).drew.heap.size = W2 at c1 hB2 hK2
  have hA2 : Blk W2 w.heap.size 149 z32 := hA.below hB2 (by omega)
  have ht2 : Tabs W2 := ht1.below hB2
  have hO2 : W2.ownsRow base 5 1 (.slice la 0 lc) 0 (([] : List UInt8).flatMap bf) := owns_keeps (hO.alloc arr32).drew (Keeps.of_below hB2) (fun b e h => by have := (hO.lt b e).2; omega)
  have q1 : bits BinOp.and IntKind.i64 (IntKind.i64.wrap 3071) (IntKind.i64.wrap (IntKind.i64.wrap 2048 - 1)) = 1023 := by decide
  have q2 : bits BinOp.and IntKind.u64 13832806255468478464 4503599627370495 = 2251799813685248 := by decide
  have q3 : bits BinOp.or IntKind.u64 2251799813685248 4503599627370496 = 6755399441055744 := by decide
  have L1 := Lib.hid hA2
  have L2 := Lib.hid ht2
  have L3 := Lib.hid hO2
  have L4 := Lib.hid hK2
  have L5 := Lib.hid hb
  clear hA ht1 hB2 ht hO hA2 ht2 hO2 hK2 hb
  generalize (13832806255468478464 : Nat) = r at hd ⊢
  go_enter Tryz.func107, Tryz.ntmps107
  go_wp2
  apply join_one
  · skip
    go_region_held3 (fun _ => True) (trivial) (first | fail)
    all_goals exact ⟨rfl, rfl⟩
  go_wp2_with (first
    | (go_at_call 121; with_reducible refine (len_a _).mono ?_; rintro e w' ⟨rfl, rfl⟩)
    | (go_at_call 139; with_reducible refine c1.mono ?_; rintro e w' ⟨rfl, rfl⟩))
  apply join_w (fun W => Keeps (fun k => k = w.heap.size) W2 W ∧ ∃ rest, Blk W w.heap.size 149 (.int .u8 49 :: .int .u8 53 :: rest))
  · go_region_held3 (fun _ => True) (trivial) (first
      | (go_at_call 100; with_reducible refine (digits16 _ (by first | exact L2.out | exact L2.out.drew)).mono ?_; rintro e w' ⟨rfl, rfl⟩)
      | (go_at_call 134; with_reducible refine (set_at _ _ (by first | exact holds32 L1.out | exact holds32 L1.out.drew)).mono ?_; rintro e w' ⟨rfl, hK3, k0, k1, hbk⟩))
    all_goals
      refine ⟨rfl, ?_⟩
      obtain ⟨cs', hcs⟩ := hbk _ _ (by first | exact L1.out | exact L1.out.drew)
      obtain ⟨rest, rfl⟩ := two_of hcs k0 k1
      first | exact ⟨hK3, rest, hcs⟩ | exact ⟨(Keeps.refl _ W2).drew.trans hK3, rest, hcs⟩
  rintro W3 ⟨hK3, rest, hd3⟩
  have hO3 : W3.ownsRow base 5 1 (.slice la 0 lc) 0 (([] : List UInt8).flatMap bf) := owns_keeps L3.out hK3 (fun b e h => by
    subst h; exact absurd e.symm (own_ne L3.out L1.out (by decide)))
  have hb3 : base ≤ W3.heap.size := Nat.le_trans L5.out (Nat.le_trans L4.out.size hK3.size)
  have c4 := efg_at W3 base hb3 la lc hO3 w.heap.size rest hd3
  have L6 := Lib.hid (L4.out.then hK3 (fun i _ h => by omega))
  clear hO3 hb3 hK3 hd3 L1 L2 L3 L4
  go_wp2_with (go_at_call 132; with_reducible refine c4.mono ?_; rintro e w' ⟨la', lc', rfl, hO4, hK4⟩)
  go_ret
  exact ⟨la', lc', rfl, hO4, L6.out.trans hK4⟩
theorem back {w : World} {base : Nat} {la : Option Addr} {lc : Nat} (hO : w.ownsRow base 5 1 (.slice la 4 lc) 4 (([45, 49, 46, 53] : List UInt8).flatMap bf)) : (convert 74 9 (.slice la 4 lc)).run Tryz.prog w = .ok (.string ⟨#[45, 49, 46, 53]⟩) w := by
  obtain ⟨g, cap, hv⟩ := ownsRow_succ hO
  simp only [Value.slice.injEq] at hv
  obtain ⟨rfl, -, rfl⟩ := hv
  refine run_convert_bytes_back w 74 9 5 ⟨g, 0, none⟩ lc [45, 49, 46, 53] Tryz.underlying74 Tryz.underlying5 Tryz.underlying9 (fun j hj => ?_)
  have hj4 : j < 4 := hj
  have : j = 0 ∨ j = 1 ∨ j = 2 ∨ j = 3 := by omega
  rcases this with rfl | rfl | rfl | rfl <;> exact hO.cells rfl _ _ rfl
theorem make24 (W : World) : (Instr.makeSlice 74 (.int .i64 0) (.int .i64 24)).run Tryz.prog W = .ok (.slice (some ⟨W.heap.size, 0, none⟩) 0 24) (W.alloc (.cells (Array.replicate 24 (.int .u8 0)) 5)) := by
  obtain ⟨i, hi, he⟩ := Option.map_eq_some_iff.1 bInfo
  simp only [Prod.mk.injEq] at he
  obtain ⟨h1, h2, h3⟩ := he
  have e : madeCells (Value.int IntKind.u8 0).cells (24 * 1) = Array.replicate 24 (.int .u8 0) := by kernel_rfl
  rw [← e]
  exact run_make_rowN 74 5 i (.int .u8 0) 1 1 Tryz.underlying74 hi h1 h2 h3 .i64 .i64 0 24 (by omega) (by decide) (by decide) W
set_option maxRecDepth 20000 in
theorem formats_at : Formats := by
  intro w ht hv
  have m1 : max (3 : Int) 24 = 24 := by decide
  have hm := make24
  have hO0 : (w.alloc (.cells (Array.replicate 24 (.int .u8 0)) 5)).ownsRow w.heap.size 5 1 (.slice (some ⟨w.heap.size, 0, none⟩) 0 24) 0 (([] : List UInt8).flatMap bf) := World.ownsRow_made w _ 24 (Nat.le_refl _) (by decide) (by simp)
  have hb0 := (((Below.refl w.heap.size w).alloc (Nat.le_refl _) (.cells (Array.replicate 24 (.int .u8 0)) 5)))
  have c1 := ftoa_at _ (ht.below hb0) w.heap.size hb0.size _ _ hO0
  have HB := Lib.hid hb0
  clear ht hv hO0 hb0
  generalize 13832806255468478464 = r at *
  go_enter Tryz.func83, Tryz.ntmps83
  go_wp2_with (go_at_call 107; with_reducible refine c1.mono ?_; rintro e w' ⟨la', lc', rfl, hO4, hK4⟩; have hcv := back hO4)
  go_ret
  exact ⟨rfl, HB.out.trans (hK4.below HB.out.size (fun k hk h => by omega))⟩
end Rl
end Go.Proofs.YtdhelpbhbhihaaaGreatDoor
