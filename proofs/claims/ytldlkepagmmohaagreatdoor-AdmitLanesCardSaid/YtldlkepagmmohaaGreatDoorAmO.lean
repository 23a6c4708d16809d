/-
  AmO: the law: lanes.
-/
import Derived.Test.YtldlkepagmmohaaGreatDoorAmN
namespace Go.Proofs.YtldlkepagmmohaaGreatDoor
open Go.RowKit
set_option linter.unusedVariables false
set_option linter.unusedSimpArgs false
attribute [local go_sem] Oper.semAt_some
namespace Am
open Mem
set_option maxHeartbeats 2000000 in
set_option maxRecDepth 20000 in
theorem law_t (s q o f u b v l t c i : Int) (k id nu ti x y dw sk sz : Int) (va ha : Option Addr) (vn vc hn hc : Nat) (rl : ByteArray) (w : World) : Calls Tryz.prog 3 #[.agg #[.int .i64 s, .int .i64 q, .int .i64 o, .int .i64 f, .int .i64 u, .int .i64 b, .int .i64 v, .int .i64 l, .int .i64 t, .int .i64 c, .int .i64 i], .agg #[.int .u8 k, .int .u32 id, .int .u32 nu, .int .u32 ti, .int .i32 x, .int .i32 y, .int .u32 dw, .int .u8 sk, .slice va vn vc, .slice ha hn hc, .int .i32 sz, .string rl]] w fun e w' => e = .returned (.bool true) ∧ Keeps (fun _ => False) w w' := by
  have b1 := (Blk.new w 23 [.int .i64 s, .int .i64 q, .int .i64 o, .int .i64 f, .int .i64 u, .int .i64 b, .int .i64 v, .int .i64 l, .int .i64 t, .int .i64 c, .int .i64 i]).alloc (.cells #[.int .u8 k, .int .u32 id, .int .u32 nu, .int .u32 ti, .int .i32 x, .int .i32 y, .int .u32 dw, .int .u8 sk, .slice va vn vc, .slice ha hn hc, .int .i32 sz, .string rl] 32)
  have b2 := Blk.new (w.alloc (.cells #[.int .i64 s, .int .i64 q, .int .i64 o, .int .i64 f, .int .i64 u, .int .i64 b, .int .i64 v, .int .i64 l, .int .i64 t, .int .i64 c, .int .i64 i] 23)) 32 [.int .u8 k, .int .u32 id, .int .u32 nu, .int .u32 ti, .int .i32 x, .int .i32 y, .int .u32 dw, .int .u8 sk, .slice va vn vc, .slice ha hn hc, .int .i32 sz, .string rl]
  simp only [World.size_alloc] at b2
  have HS := Lib.hid (fun W' (hk : Keeps (fun _ => False) ((w.alloc (.cells #[.int .i64 s, .int .i64 q, .int .i64 o, .int .i64 f, .int .i64 u, .int .i64 b, .int .i64 v, .int .i64 l, .int .i64 t, .int .i64 c, .int .i64 i] 23)).alloc (.cells #[.int .u8 k, .int .u32 id, .int .u32 nu, .int .u32 ti, .int .i32 x, .int .i32 y, .int .u32 dw, .int .u8 sk, .slice va vn vc, .slice ha hn hc, .int .i32 sz, .string rl] 32)) W') => (show (∀ j : Nat, W'.cell? ⟨w.heap.size, j, none⟩ = ([.int .i64 s, .int .i64 q, .int .i64 o, .int .i64 f, .int .i64 u, .int .i64 b, .int .i64 v, .int .i64 l, .int .i64 t, .int .i64 c, .int .i64 i] : List Value)[j]?) ∧ (∀ j : Nat, W'.cell? ⟨w.heap.size + 1, j, none⟩ = ([.int .u8 k, .int .u32 id, .int .u32 nu, .int .u32 ti, .int .i32 x, .int .i32 y, .int .u32 dw, .int .u8 sk, .slice va vn vc, .slice ha hn hc, .int .i32 sz, .string rl] : List Value)[j]?) from ⟨(b1.keeps hk (fun h => h)).cell, (b2.keeps hk (fun h => h)).cell⟩))
  have HL1 := Lib.hid (fun W => Ad.lane_t s q o f u b v l t c i k id nu ti x y dw sk sz va ha vn vc hn hc rl W)
  have HL2 := Lib.hid (fun W => Ad.rlane_t s q o f u b v l t c i k id nu ti x y dw sk sz va ha vn vc hn hc rl W)
  generalize Ad.laneV s q o f u b v l t c i k id = R at HL1 HL2
  have hR : (R == R) = true := by simp
  clear b1 b2
  go_enter Tryz.func3, Tryz.ntmps3
  go_wp2
  go_region_held3 (fun W => (∀ j : Nat, W.cell? ⟨w.heap.size, j, none⟩ = ([.int .i64 s, .int .i64 q, .int .i64 o, .int .i64 f, .int .i64 u, .int .i64 b, .int .i64 v, .int .i64 l, .int .i64 t, .int .i64 c, .int .i64 i] : List Value)[j]?) ∧ (∀ j : Nat, W.cell? ⟨w.heap.size + 1, j, none⟩ = ([.int .u8 k, .int .u32 id, .int .u32 nu, .int .u32 ti, .int .i32 x, .int .i32 y, .int .u32 dw, .int .u8 sk, .slice va vn vc, .slice ha hn hc, .int .i32 sz, .string rl] : List Value)[j]?)) (first | with_reducible assumption | exact HS.out _ (by (repeat (first | exact Keeps.refl _ _ | refine Keeps.drew ?_ | refine Keeps.alloc ?_ _ | with_reducible refine Keeps.trans ?_ K3.out | with_reducible refine Keeps.trans ?_ K2.out | with_reducible refine Keeps.trans ?_ K1.out)))) (first
    | (go_at_call 4; (with_reducible refine (HL1.out _).mono ?_); rintro e w1 ⟨rfl, hk⟩; have K1 := Lib.hid hk; clear hk)
    | (go_at_call 5; (with_reducible refine (HL2.out _).mono ?_); rintro e w2 ⟨rfl, hk⟩; have K2 := Lib.hid hk; clear hk)
    | (go_at_call 6; (with_reducible refine (lives_t _).mono ?_); rintro e w3 ⟨rfl, hk⟩; have K3 := Lib.hid hk; clear hk))
  all_goals
    go_wp2
    go_ret
    exact ⟨rfl, by (repeat (first | exact Keeps.refl _ _ | refine Keeps.drew ?_ | refine Keeps.alloc ?_ _ | with_reducible refine Keeps.trans ?_ K3.out | with_reducible refine Keeps.trans ?_ K2.out | with_reducible refine Keeps.trans ?_ K1.out))⟩
end Am
end Go.Proofs.YtldlkepagmmohaaGreatDoor
