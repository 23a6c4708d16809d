/-
  RlJ: the printer's last step: four appends.
-/
import Derived.Test.YtdhelpbhbhihaaaGreatDoorRlI
namespace Go.Proofs.YtdhelpbhbhihaaaGreatDoor
open Go.RowKit Go.Shelf
set_option linter.unusedVariables false
set_option linter.unusedSimpArgs false
attribute [local go_sem] Oper.semAt_some
namespace Rl
open Mem
theorem newB (w : World) (b : UInt8) : ∀ j u, (bf b)[j]? = some u → (w.alloc (.cells #[encB b] 5)).cell? ((⟨w.heap.size, 0, none⟩ : Addr).add j) = some u := Mem.news_new w 5 [encB b]
theorem own_al {w : World} {base n : Nat} {v : Value} {xs : List Value} (h : w.ownsRow base 5 1 v n xs) (o : Obj) : (w.alloc o).ownsRow base 5 1 v n xs := owns_keeps h ((Keeps.refl (fun _ => False) _).alloc o) (fun _ _ h => h)
theorem base_al {w : World} {base : Nat} (h : base ≤ w.heap.size) (o : Obj) : base ≤ (w.alloc o).heap.size := Nat.le_trans h ((Keeps.refl (fun _ => False) w).alloc o).size
theorem next {w w1 : World} {B base n : Nat} {v : Value} {xs cs : List Value} {o : Obj} (hO : w.ownsRow base 5 1 v n xs) (hd : Blk w B 149 cs) (hb : base ≤ w.heap.size) (hG : (w.alloc o).grownBy w1 v.ownBlock) : Blk w1 B 149 cs ∧ base ≤ w1.heap.size ∧ Keeps (fun k => base ≤ k) w w1 :=
  ⟨(hd.alloc o).grown hG (own_ne (own_al hO o) (hd.alloc o) (by decide)), Nat.le_trans (base_al hb o) hG.size, ((Keeps.refl _ w).alloc o).grown hG (fun k _ e => (hO.lt k e).1)⟩
set_option maxHeartbeats 1000000 in
set_option maxRecDepth 20000 in
theorem efg_at (w : World) (base : Nat) (hb : base ≤ w.heap.size) (la : Option Addr) (lc : Nat) (hO : w.ownsRow base 5 1 (.slice la 0 lc) 0 (([] : List UInt8).flatMap bf)) (B : Nat) (rest : List Value) (hd : Blk w B 149 (.int .u8 49 :: .int .u8 53 :: rest)) : Calls Tryz.prog 132 #[.slice la 0 lc, .bool true, .slice (some ⟨B, 0, none⟩) 32 32, .int .i64 1, .int .i64 2, .int .i64 2, .int .u8 103, .bool true] w fun e w' => ∃ la' lc', e = .returned (.slice la' 4 lc') ∧ w'.ownsRow base 5 1 (.slice la' 4 lc') 4 (([45, 49, 46, 53] : List UInt8).flatMap bf) ∧ Keeps (fun k => base ≤ k) w w' := by
  have m1 : max (1 : Int) 0 = 1 := by decide
  have m2 : max (0 : Int) (-1) = 0 := by decide
  have m3 : min (1 : Int) 0 = 0 := by decide
  have m4 : max (0 : Int) 1 = 1 := by decide
  have m5 : min (1 : Int) 1 = 1 := by decide
  have m6 : min (2 : Int) 1 = 1 := by decide
  have m7 : max (0 : Int) 0 = 0 := by decide
  go_enter Tryz.func132, Tryz.ntmps132
  go_wp2_with (at_builtin; go_loud (refine app_f elB rfl (.tmp 179) (.tmp 180) rfl base ([] : List UInt8) 0 la lc rfl (own_al hO _) (45 : UInt8) w.heap.size rfl (newB w 45) (by decide) (base_al hb _) ?_; intro g1 cap1 w1 hO1 hG1; obtain ⟨hd1, hb1, hk1⟩ := next hO hd hb hG1; have c10 := hd1.cell 0; have c11 := hd1.cell 1))
  refine wp_loop_rounds 2 ?_
  rw [rounds_succ]
  go_wp2_with (at_builtin; go_loud (refine app_f elB rfl (.tmp 195) (.tmp 197) rfl base ([45] : List UInt8) 1 (some ⟨g1, 0, none⟩) cap1 rfl (own_al hO1 _) (49 : UInt8) w1.heap.size rfl (newB w1 49) (by decide) (base_al hb1 _) ?_; intro g2 cap2 w2 hO2 hG2; obtain ⟨hd2, hb2, hk2⟩ := next hO1 hd1 hb1 hG2; have c20 := hd2.cell 0; have c21 := hd2.cell 1))
  rw [rounds_succ]
  go_wp2
  refine wp_loop_rounds 1 ?_
  rw [rounds_succ]
  go_wp2_with (at_builtin; go_loud (refine app_f elB rfl (.tmp 214) (.tmp 215) rfl base ([45, 49] : List UInt8) 2 (some ⟨g2, 0, none⟩) cap2 rfl (own_al hO2 _) (46 : UInt8) w2.heap.size rfl (newB w2 46) (by decide) (base_al hb2 _) ?_; intro g3 cap3 w3 hO3 hG3; obtain ⟨hd3, hb3, hk3⟩ := next hO2 hd2 hb2 hG3; have c30 := hd3.cell 0; have c31 := hd3.cell 1))
  refine wp_loop_rounds 1 ?_
  rw [rounds_succ]
  go_wp2
  refine wp_loop_rounds 2 ?_
  rw [rounds_succ]
  go_wp2_with (at_builtin; go_loud (refine app_f elB rfl (.tmp 250) (.tmp 257) rfl base ([45, 49, 46] : List UInt8) 3 (some ⟨g3, 0, none⟩) cap3 rfl (own_al hO3 _) (53 : UInt8) w3.heap.size rfl (newB w3 53) (by decide) (base_al hb3 _) ?_; intro g4 cap4 w4 hO4 hG4; obtain ⟨hd4, hb4, hk4⟩ := next hO3 hd3 hb3 hG4; have c40 := hd4.cell 0; have c41 := hd4.cell 1))
  rw [rounds_succ]
  go_wp2
  refine wp_loop_rounds 1 ?_
  rw [rounds_succ]
  go_wp2
  go_ret
  exact ⟨_, _, rfl, hO4, ((hk1.trans hk2).trans hk3).trans hk4⟩
end Rl
end Go.Proofs.YtdhelpbhbhihaaaGreatDoor
