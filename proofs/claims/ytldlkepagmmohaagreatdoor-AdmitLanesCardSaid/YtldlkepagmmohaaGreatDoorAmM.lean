/-
  AmM: what is known.
-/
import Derived.Test.YtldlkepagmmohaaGreatDoorAmL
import Derived.Shelf.Abstract
namespace Go.Proofs.YtldlkepagmmohaaGreatDoor
open Go.RowKit Go.Shelf
set_option linter.unusedVariables false
set_option linter.unusedSimpArgs false
attribute [local go_sem] Oper.semAt_some
namespace Am
open Mem
theorem keysf_t (r : Nat) (w : World) : Calls Tryz.prog 25 #[.map (some r)] w fun e w' => e = .returned (.func (.func 44) #[] #[.pointer (some ⟨w.heap.size, 0, none⟩)]) ∧ w.alloc (.cells #[.map (some r)] 61) = w' := by
  go_enter Tryz.func25, Tryz.ntmps25
  go_wp2
  go_ret
  exact ⟨rfl, rfl⟩
theorem collect_t (PB r : Nat) (v : Value) (w : World) (hP : Blk w PB 61 [.map (some r)]) (hM : Mp w r #[⟨.int .u32 5, v, 0⟩] 1) : Calls Tryz.prog 42 #[.func (.func 44) #[] #[.pointer (some ⟨PB, 0, none⟩)]] w fun e w' => Fresh w [5] e w' := by
  have hlt := hM.lt
  have H := Lib.hid (appseq_t 44 #[.pointer (some ⟨PB, 0, none⟩)] [5] w (fun S => ¬ S r) (by decide) (enters_of Tryz.func44 (by kernel_rfl) rfl) (fun W1 hk => keys_gives 8 PB r v W1 (hP.keeps hk (fun h => h)) (hM.keeps hk (fun h => h))) (fun S hS h => by have := hS r h; omega))
  clear hP hM hlt
  go_enter Tryz.func42, Tryz.ntmps42
  go_wp2_with (go_at_call 67; (with_reducible refine H.out.mono ?_); rintro e w1 ⟨a, c, rfl, h⟩; have HX := Lib.hid h; clear h)
  go_ret
  exact ⟨a, c, rfl, HX.out⟩
theorem sorted_t (PB r : Nat) (v : Value) (w : World) (hP : Blk w PB 61 [.map (some r)]) (hM : Mp w r #[⟨.int .u32 5, v, 0⟩] 1) : Calls Tryz.prog 24 #[.func (.func 44) #[] #[.pointer (some ⟨PB, 0, none⟩)]] w fun e w' => Fresh w [5] e w' := by
  have H := Lib.hid (collect_t PB r v w hP hM)
  clear hP hM
  go_enter Tryz.func24, Tryz.ntmps24
  go_wp2_with (first
    | (go_at_call 42; (with_reducible refine H.out.mono ?_); rintro e w1 ⟨a, c, rfl, h⟩; have HX := Lib.hid h; clear h)
    | (go_at_call 43; refine (sort1 a 1 c (by decide) _).mono ?_; rintro e w2 ⟨⟨u, rfl⟩, rfl⟩))
  go_ret
  exact ⟨a, c, rfl, HX.out⟩
theorem fresh_one {w w2 : World} {a : Option Addr} {c : Nat} (h : w2.ownsRow w.heap.size 25 1 (.slice a ([5] : List Nat).length c) ([5] : List Nat).length (u32s [5])) : ∃ g, a = some ⟨g, 0, none⟩ ∧ w2.cell? ⟨g, 0, none⟩ = some (.int .u32 5) := by
  rcases h.2 with ⟨he, hn⟩ | ⟨g, cap, cur, he, hb, hg, h1, h2⟩
  · injection he with e1 e2; simp at e2
  · obtain ⟨e1, e3⟩ : a = some ⟨g, 0, none⟩ ∧ True := by injection he with e1 e2 e3; exact ⟨e1, trivial⟩
    subst e1
    have := World.ownsRow.cells h (g := g) rfl 0 (.int .u32 5) rfl
    exact ⟨g, rfl, by rw [Addr.add_mid, Nat.zero_add] at this; exact this⟩
def knf : Nat × Nat → List Value := fun p => [.int .u32 (p.1 : Int), .int .u32 (p.2 : Int)]
theorem kInfo : (Tryz.prog.info? 83).map (fun i => (i.zero.map (·.cells.size), i.size, decide (i.bytes ≤ 1000))) = some (some 2, 2, true) := by kernel_rfl
theorem elK : ElW Tryz.prog 56 83 knf 2 := by
  obtain ⟨i, hi, he⟩ := Option.map_eq_some_iff.1 kInfo
  simp only [Prod.mk.injEq] at he
  obtain ⟨h1, h2, h3⟩ := he
  obtain ⟨z, hz, hz2⟩ := Option.map_eq_some_iff.1 h1
  exact ⟨Tryz.underlying56, ⟨i, z, hi, hz, h2, of_decide_eq_true h3, hz2⟩, by decide, fun _ => rfl, fun x u hu => by
    simp only [knf, List.mem_cons, List.not_mem_nil, or_false] at hu
    rcases hu with rfl | rfl <;> rfl⟩
theorem news2 (w2 : World) : ∀ j u, (knf (5, 3))[j]? = some u → ((w2.alloc (.cells #[.bool true, .int .u32 3, .bool false, .int .i64 1] 81)).alloc (.cells #[.int .u32 5, .int .u32 3] 83)).cell? ((⟨w2.heap.size + 1, 0, none⟩ : Addr).add j) = some u := by
  have := Mem.news_new (w2.alloc (.cells #[.bool true, .int .u32 3, .bool false, .int .i64 1] 81)) 83 [.int .u32 5, .int .u32 3]
  simp only [World.size_alloc] at this
  exact this
set_option maxHeartbeats 1000000 in
set_option maxRecDepth 20000 in
theorem known_t (B m1 m2 tb lb : Nat) (ep : Int) (w : World) (hb : Blk w B 65 (bookL m1 m2 tb lb ep)) (hm : Mp w m1 #[⟨.int .u32 5, .agg #[.bool true, .int .u32 3, .bool false, .int .i64 1], 0⟩] 1) : Calls Tryz.prog 13 #[.pointer (some ⟨B, 0, none⟩)] w fun e w' => ∃ a c, e = .returned (.slice a 1 c) ∧ Keeps (fun _ => False) w w' := by
  have HL := Lib.hid (live_t B m1 m2 tb lb ep w hb)
  have HK1 := Lib.hid (show Keeps (fun _ => False) w (w.alloc (.cells #[.map (some m1)] 61)) from by (repeat (first | exact Keeps.refl _ _ | assumption | refine Keeps.alloc ?_ _ | refine Keeps.drew ?_)))
  have HS := Lib.hid (sorted_t w.heap.size m1 (.agg #[.bool true, .int .u32 3, .bool false, .int .i64 1]) (w.alloc (.cells #[.map (some m1)] 61)) (Blk.new w _ _) (hm.alloc _))
  have HB := Lib.hid (And.intro hb hm)
  have c0 := hb.cell
  clear hb hm
  go_enter Tryz.func13, Tryz.ntmps13
  go_wp2_with (first
    | (go_at_call 16; (with_reducible refine HL.out.mono ?_); rintro e w1 ⟨rfl, rfl⟩)
    | (go_at_call 25; (with_reducible refine (keysf_t m1 _).mono ?_); rintro e w1 ⟨rfl, rfl⟩)
    | (go_at_call 24; (with_reducible refine HS.out.mono ?_); rintro e w2 ⟨a, c, rfl, ho, hk⟩; obtain ⟨g, rfl, hg⟩ := fresh_one ho; have K2 := Lib.hid (HK1.out.trans hk); have cb2 := (HB.out.1.keeps (HK1.out.trans hk) (fun h => h)).cell; have hlk := lk1 (HB.out.2.keeps (HK1.out.trans hk) (fun h => h)); have HNW := Lib.hid (news2 w2); clear ho hk c0))
  refine wp_loop_rounds 2 ?_
  rw [rounds_succ]
  go_wp2_with (at_builtin; refine app_w elK rfl (.tmp 28) (.tmp 33) rfl _ [] 0 none 0 rfl (World.ownsRow_nil _ _ _ _) ((5, 3) : Nat × Nat) _ rfl (by exact HNW.out) (by decide) (Nat.le_refl _) ?_; intro g' cap' w5 hown hgrow; have K5 := Lib.hid (K2.out.trans ((((Keeps.refl (fun _ => False) w2).alloc (.cells #[.bool true, .int .u32 3, .bool false, .int .i64 1] 81)).alloc (.cells #[.int .u32 5, .int .u32 3] 83)).grown hgrow (fun k _ e => by cases e))); clear hown hgrow)
  rw [rounds_succ]
  go_wp2
  go_ret
  exact ⟨_, _, rfl, K5.out⟩
end Am
end Go.Proofs.YtldlkepagmmohaaGreatDoor
