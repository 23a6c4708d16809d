/-
  RefP: one call of both.
-/
import Derived.Test.YtndghakagogmcaaRefM
namespace Go.Proofs.Ytndghakagogmcaa
open Go.RowKit Go.Shelf
set_option linter.unusedVariables false
set_option linter.unusedSimpArgs false
attribute [local go_sem] Oper.semAt_some
namespace Tree
open Mem BT
def StepOut (Far : Nat → Prop) (V : World) (T R : Nat) (e : Ending) (w' : World) : Prop := e = .returned (.bool true) ∧ ∃ L', PairSt Far V w' T R L' L'
set_option maxHeartbeats 4000000 in
set_option maxRecDepth 100000 in
theorem step_k1 {Far : Nat → Prop} {V W : World} {T R : Nat} {L : List (Nat × Bx)} (h : PairSt Far V W T R L L) (id : Nat) (b : Bx) (px py qx qy n : Int) (hid : El32 (id, b)) : Calls Try.prog 35 #[.pointer (some ⟨T, 0, none⟩), .pointer (some ⟨R, 0, none⟩), .agg #[.int .i64 1, .int .u32 (id : Int), .int .i32 b.x0, .int .i32 b.y0, .int .i32 b.x1, .int .i32 b.y1, .int .i32 px, .int .i32 py, .int .i32 qx, .int .i32 qy, .int .i64 n]] W (StepOut Far V T R) := by
  obtain ⟨hm, hkeep, hF⟩ := h.more (.cells #[.int .i64 1, .int .u32 (id : Int), .int .i32 b.x0, .int .i32 b.y0, .int .i32 b.x1, .int .i32 b.y1, .int .i32 px, .int .i32 py, .int .i32 qx, .int .i32 qy, .int .i64 n] 75)
  have HA := Lib.hid (hm.same (Keeps.refl _ _).drew)
  have HBB := Lib.hid (Blk.new W 75 [.int .i64 1, .int .u32 (id : Int), .int .i32 b.x0, .int .i32 b.y0, .int .i32 b.x1, .int .i32 b.y1, .int .i32 px, .int .i32 py, .int .i32 qx, .int .i32 qy, .int .i64 n])
  have HK := Lib.hid (And.intro hkeep hF)
  have HI := Lib.hid hid
  have cX := ((Blk.new W 75 [.int .i64 1, .int .u32 (id : Int), .int .i32 b.x0, .int .i32 b.y0, .int .i32 b.x1, .int .i32 b.y1, .int .i32 px, .int .i32 py, .int .i32 qx, .int .i32 qy, .int .i64 n]).drew).cell
  clear h hm hkeep hF hid
  go_enter Try.func35, Try.ntmps35
  go_wp2
  go_region_held3 (fun W' => ∀ i : Nat, W'.cell? ⟨W.heap.size, i, none⟩ = ([.int .i64 1, .int .u32 (id : Int), .int .i32 b.x0, .int .i32 b.y0, .int .i32 b.x1, .int .i32 b.y1, .int .i32 px, .int .i32 py, .int .i32 qx, .int .i32 qy, .int .i64 n] : List Value)[i]?) (first | with_reducible assumption | exact cX) (first
    | (go_at_call 20; (with_reducible refine (ps_put HA.out id b HI.out).mono ?_); rintro e w1 ⟨rfl, hA'⟩; have hS := (HBB.out.keeps hA'.1 (fun h => h (.inr rfl))).cell; have HA := Lib.hid hA'; clear hA')
    | (go_at_call 21; (with_reducible refine (ps_rput HA.out id b HI.out).mono ?_); rintro e w1 ⟨rfl, hA'⟩; have hS := (HBB.out.keeps hA'.1 (fun h => h (.inr rfl))).cell; have HA := Lib.hid hA'; clear hA'))
  all_goals
    go_wp2
    go_ret
    exact ⟨rfl, _, HA.out.base HK.out.1 (fun k hk => .inl hk) HK.out.2⟩
set_option maxHeartbeats 4000000 in
set_option maxRecDepth 100000 in
theorem step_k2 {Far : Nat → Prop} {V W : World} {T R : Nat} {L : List (Nat × Bx)} (h : PairSt Far V W T R L L) (id : Nat) (b : Bx) (px py qx qy n : Int) (hid : El32 (id, b)) : Calls Try.prog 35 #[.pointer (some ⟨T, 0, none⟩), .pointer (some ⟨R, 0, none⟩), .agg #[.int .i64 2, .int .u32 (id : Int), .int .i32 b.x0, .int .i32 b.y0, .int .i32 b.x1, .int .i32 b.y1, .int .i32 px, .int .i32 py, .int .i32 qx, .int .i32 qy, .int .i64 n]] W (StepOut Far V T R) := by
  obtain ⟨hm, hkeep, hF⟩ := h.more (.cells #[.int .i64 2, .int .u32 (id : Int), .int .i32 b.x0, .int .i32 b.y0, .int .i32 b.x1, .int .i32 b.y1, .int .i32 px, .int .i32 py, .int .i32 qx, .int .i32 qy, .int .i64 n] 75)
  have HA := Lib.hid (hm.same (Keeps.refl _ _).drew)
  have HBB := Lib.hid (Blk.new W 75 [.int .i64 2, .int .u32 (id : Int), .int .i32 b.x0, .int .i32 b.y0, .int .i32 b.x1, .int .i32 b.y1, .int .i32 px, .int .i32 py, .int .i32 qx, .int .i32 qy, .int .i64 n])
  have HK := Lib.hid (And.intro hkeep hF)
  have HI := Lib.hid (show id < 4294967296 from hid.1)
  have cX := ((Blk.new W 75 [.int .i64 2, .int .u32 (id : Int), .int .i32 b.x0, .int .i32 b.y0, .int .i32 b.x1, .int .i32 b.y1, .int .i32 px, .int .i32 py, .int .i32 qx, .int .i32 qy, .int .i64 n]).drew).cell
  clear h hm hkeep hF hid
  go_enter Try.func35, Try.ntmps35
  go_wp2
  go_region_held3 (fun W' => ∀ i : Nat, W'.cell? ⟨W.heap.size, i, none⟩ = ([.int .i64 2, .int .u32 (id : Int), .int .i32 b.x0, .int .i32 b.y0, .int .i32 b.x1, .int .i32 b.y1, .int .i32 px, .int .i32 py, .int .i32 qx, .int .i32 qy, .int .i64 n] : List Value)[i]?) (first | with_reducible assumption | exact cX) (first
    | (go_at_call 24; (with_reducible refine (ps_del HA.out id HI.out).mono ?_); rintro e w1 ⟨rfl, hA'⟩; have hS := (HBB.out.keeps hA'.1 (fun h => h (.inr rfl))).cell; have HA := Lib.hid hA'; clear hA')
    | (go_at_call 25; (with_reducible refine (ps_rdel HA.out id).mono ?_); rintro e w1 ⟨rfl, hA'⟩; have hS := (HBB.out.keeps hA'.1 (fun h => h (.inr rfl))).cell; have HA := Lib.hid hA'; clear hA'))
  all_goals
    go_wp2
    go_ret
    exact ⟨rfl, _, HA.out.base HK.out.1 (fun k hk => .inl hk) HK.out.2⟩
set_option maxHeartbeats 4000000 in
set_option maxRecDepth 100000 in
theorem step_k4 {Far : Nat → Prop} {V W : World} {T R : Nat} {L : List (Nat × Bx)} (h : PairSt Far V W T R L L) (id : Nat) (b : Bx) (px py qx qy n : Int) (hid : El32 (id, b)) : Calls Try.prog 35 #[.pointer (some ⟨T, 0, none⟩), .pointer (some ⟨R, 0, none⟩), .agg #[.int .i64 4, .int .u32 (id : Int), .int .i32 b.x0, .int .i32 b.y0, .int .i32 b.x1, .int .i32 b.y1, .int .i32 px, .int .i32 py, .int .i32 qx, .int .i32 qy, .int .i64 n]] W (StepOut Far V T R) := by
  obtain ⟨hm, hkeep, hF⟩ := h.more (.cells #[.int .i64 4, .int .u32 (id : Int), .int .i32 b.x0, .int .i32 b.y0, .int .i32 b.x1, .int .i32 b.y1, .int .i32 px, .int .i32 py, .int .i32 qx, .int .i32 qy, .int .i64 n] 75)
  have HA := Lib.hid (hm.same (Keeps.refl _ _).drew)
  have HBB := Lib.hid (Blk.new W 75 [.int .i64 4, .int .u32 (id : Int), .int .i32 b.x0, .int .i32 b.y0, .int .i32 b.x1, .int .i32 b.y1, .int .i32 px, .int .i32 py, .int .i32 qx, .int .i32 qy, .int .i64 n])
  have HK := Lib.hid (And.intro hkeep hF)
  have HV := Lib.hid (Kept.nil (W.alloc (.cells #[.int .i64 4, .int .u32 (id : Int), .int .i32 b.x0, .int .i32 b.y0, .int .i32 b.x1, .int .i32 b.y1, .int .i32 px, .int .i32 py, .int .i32 qx, .int .i32 qy, .int .i64 n] 75)).drew)
  have HSame := Lib.hid (ps_same 0 L h.small)
  have cX := ((Blk.new W 75 [.int .i64 4, .int .u32 (id : Int), .int .i32 b.x0, .int .i32 b.y0, .int .i32 b.x1, .int .i32 b.y1, .int .i32 px, .int .i32 py, .int .i32 qx, .int .i32 qy, .int .i64 n]).drew).cell
  clear h hm hkeep hF hid
  go_enter Try.func35, Try.ntmps35
  go_wp2
  go_region_held3 (fun W' => ∀ i : Nat, W'.cell? ⟨W.heap.size, i, none⟩ = ([.int .i64 4, .int .u32 (id : Int), .int .i32 b.x0, .int .i32 b.y0, .int .i32 b.x1, .int .i32 b.y1, .int .i32 px, .int .i32 py, .int .i32 qx, .int .i32 qy, .int .i64 n] : List Value)[i]?) (first | with_reducible assumption | exact cX) (first
    | (go_at_call 32; (with_reducible refine (at_any _ _ _ _).mono ?_); rintro e w1 ⟨B1, B2, rfl, hb1, hb2, hk, _, _⟩; have hA' := HA.out.same hk; have hS := (HBB.out.keeps hA'.1 (fun h => h (.inr rfl))).cell; have HA := Lib.hid hA'; have HV := Lib.hid (Kept.kd HV.out hk); clear hA'; have HQ := Lib.hid (ps_told HA.out B1 B2 ⟨px, py, px, py⟩ 0 hb1 hb2); clear hk hb1 hb2)
    | (go_at_call 27; (with_reducible refine HQ.out.mono ?_); rintro e w1 ⟨v, rfl, hv, hk⟩; have hA' := HA.out.same hk; have hS := (HBB.out.keeps hA'.1 (fun h => h (.inr rfl))).cell; have HA := Lib.hid hA'; have HV := Lib.hid (Kept.kd HV.out hk); clear hA'; have HV := Lib.hid (Kept.add HV.out hv); clear hk hv HQ)
    | (go_at_call 55; (with_reducible refine (ps_rat HA.out px py).mono ?_); rintro e w1 ⟨v, rfl, hv, hk⟩; have hA' := HA.out.same hk; have hS := (HBB.out.keeps hA'.1 (fun h => h (.inr rfl))).cell; have HA := Lib.hid hA'; have HV := Lib.hid (Kept.kd HV.out hk); clear hA'; have HV := Lib.hid (Kept.add HV.out hv); clear hk hv)
    | (go_at_call 26; (refine (HSame.out _ _ _ _ (HV.out _ (.tail _ (.head _))) (HV.out _ (.head _))).mono ?_); rintro e w1 ⟨rfl, hk⟩; have hA' := HA.out.same hk; have hS := (HBB.out.keeps hA'.1 (fun h => h (.inr rfl))).cell; have HA := Lib.hid hA'; have HV := Lib.hid (Kept.kd HV.out hk); clear hA'; clear hk))
  all_goals
    go_wp2
    go_ret
    exact ⟨rfl, _, HA.out.base HK.out.1 (fun k hk => .inl hk) HK.out.2⟩
set_option maxHeartbeats 4000000 in
set_option maxRecDepth 100000 in
theorem step_k5 {Far : Nat → Prop} {V W : World} {T R : Nat} {L : List (Nat × Bx)} (h : PairSt Far V W T R L L) (id : Nat) (b : Bx) (px py qx qy n : Int) (hid : El32 (id, b)) : Calls Try.prog 35 #[.pointer (some ⟨T, 0, none⟩), .pointer (some ⟨R, 0, none⟩), .agg #[.int .i64 5, .int .u32 (id : Int), .int .i32 b.x0, .int .i32 b.y0, .int .i32 b.x1, .int .i32 b.y1, .int .i32 px, .int .i32 py, .int .i32 qx, .int .i32 qy, .int .i64 n]] W (StepOut Far V T R) := by
  obtain ⟨hm, hkeep, hF⟩ := h.more (.cells #[.int .i64 5, .int .u32 (id : Int), .int .i32 b.x0, .int .i32 b.y0, .int .i32 b.x1, .int .i32 b.y1, .int .i32 px, .int .i32 py, .int .i32 qx, .int .i32 qy, .int .i64 n] 75)
  have HA := Lib.hid (hm.same (Keeps.refl _ _).drew)
  have HBB := Lib.hid (Blk.new W 75 [.int .i64 5, .int .u32 (id : Int), .int .i32 b.x0, .int .i32 b.y0, .int .i32 b.x1, .int .i32 b.y1, .int .i32 px, .int .i32 py, .int .i32 qx, .int .i32 qy, .int .i64 n])
  have HK := Lib.hid (And.intro hkeep hF)
  have HV := Lib.hid (Kept.nil (W.alloc (.cells #[.int .i64 5, .int .u32 (id : Int), .int .i32 b.x0, .int .i32 b.y0, .int .i32 b.x1, .int .i32 b.y1, .int .i32 px, .int .i32 py, .int .i32 qx, .int .i32 qy, .int .i64 n] 75)).drew)
  have HSame := Lib.hid (ps_same 0 L h.small)
  have cX := ((Blk.new W 75 [.int .i64 5, .int .u32 (id : Int), .int .i32 b.x0, .int .i32 b.y0, .int .i32 b.x1, .int .i32 b.y1, .int .i32 px, .int .i32 py, .int .i32 qx, .int .i32 qy, .int .i64 n]).drew).cell
  clear h hm hkeep hF hid
  go_enter Try.func35, Try.ntmps35
  go_wp2
  go_region_held3 (fun W' => ∀ i : Nat, W'.cell? ⟨W.heap.size, i, none⟩ = ([.int .i64 5, .int .u32 (id : Int), .int .i32 b.x0, .int .i32 b.y0, .int .i32 b.x1, .int .i32 b.y1, .int .i32 px, .int .i32 py, .int .i32 qx, .int .i32 qy, .int .i64 n] : List Value)[i]?) (first | with_reducible assumption | exact cX) (first
    | (go_at_call 33; (with_reducible refine (crossing_any _ _ _ _ _ _).mono ?_); rintro e w1 ⟨B1, B2, rfl, hb1, hb2, hk, _, _⟩; have hA' := HA.out.same hk; have hS := (HBB.out.keeps hA'.1 (fun h => h (.inr rfl))).cell; have HA := Lib.hid hA'; have HV := Lib.hid (Kept.kd HV.out hk); clear hA'; have HQ := Lib.hid (ps_told HA.out B1 B2 ⟨min px qx, min py qy, max px qx, max py qy⟩ 0 hb1 hb2); clear hk hb1 hb2)
    | (go_at_call 27; (with_reducible refine HQ.out.mono ?_); rintro e w1 ⟨v, rfl, hv, hk⟩; have hA' := HA.out.same hk; have hS := (HBB.out.keeps hA'.1 (fun h => h (.inr rfl))).cell; have HA := Lib.hid hA'; have HV := Lib.hid (Kept.kd HV.out hk); clear hA'; have HV := Lib.hid (Kept.add HV.out hv); clear hk hv HQ)
    | (go_at_call 56; (with_reducible refine (ps_rcross HA.out px py qx qy).mono ?_); rintro e w1 ⟨v, rfl, hv, hk⟩; have hA' := HA.out.same hk; have hS := (HBB.out.keeps hA'.1 (fun h => h (.inr rfl))).cell; have HA := Lib.hid hA'; have HV := Lib.hid (Kept.kd HV.out hk); clear hA'; have HV := Lib.hid (Kept.add HV.out hv); clear hk hv)
    | (go_at_call 26; (refine (HSame.out _ _ _ _ (HV.out _ (.tail _ (.head _))) (HV.out _ (.head _))).mono ?_); rintro e w1 ⟨rfl, hk⟩; have hA' := HA.out.same hk; have hS := (HBB.out.keeps hA'.1 (fun h => h (.inr rfl))).cell; have HA := Lib.hid hA'; have HV := Lib.hid (Kept.kd HV.out hk); clear hA'; clear hk))
  all_goals
    go_wp2
    go_ret
    exact ⟨rfl, _, HA.out.base HK.out.1 (fun k hk => .inl hk) HK.out.2⟩
set_option maxHeartbeats 4000000 in
set_option maxRecDepth 100000 in
theorem step_k6 {Far : Nat → Prop} {V W : World} {T R : Nat} {L : List (Nat × Bx)} (h : PairSt Far V W T R L L) (id : Nat) (b : Bx) (px py qx qy n : Int) (hid : El32 (id, b)) : Calls Try.prog 35 #[.pointer (some ⟨T, 0, none⟩), .pointer (some ⟨R, 0, none⟩), .agg #[.int .i64 6, .int .u32 (id : Int), .int .i32 b.x0, .int .i32 b.y0, .int .i32 b.x1, .int .i32 b.y1, .int .i32 px, .int .i32 py, .int .i32 qx, .int .i32 qy, .int .i64 n]] W (StepOut Far V T R) := by
  obtain ⟨hm, hkeep, hF⟩ := h.more (.cells #[.int .i64 6, .int .u32 (id : Int), .int .i32 b.x0, .int .i32 b.y0, .int .i32 b.x1, .int .i32 b.y1, .int .i32 px, .int .i32 py, .int .i32 qx, .int .i32 qy, .int .i64 n] 75)
  have HA := Lib.hid (hm.same (Keeps.refl _ _).drew)
  have HBB := Lib.hid (Blk.new W 75 [.int .i64 6, .int .u32 (id : Int), .int .i32 b.x0, .int .i32 b.y0, .int .i32 b.x1, .int .i32 b.y1, .int .i32 px, .int .i32 py, .int .i32 qx, .int .i32 qy, .int .i64 n])
  have HK := Lib.hid (And.intro hkeep hF)
  have HV := Lib.hid (Kept.nil (W.alloc (.cells #[.int .i64 6, .int .u32 (id : Int), .int .i32 b.x0, .int .i32 b.y0, .int .i32 b.x1, .int .i32 b.y1, .int .i32 px, .int .i32 py, .int .i32 qx, .int .i32 qy, .int .i64 n] 75)).drew)
  have HSame := Lib.hid (ps_same 0 L h.small)
  have cX := ((Blk.new W 75 [.int .i64 6, .int .u32 (id : Int), .int .i32 b.x0, .int .i32 b.y0, .int .i32 b.x1, .int .i32 b.y1, .int .i32 px, .int .i32 py, .int .i32 qx, .int .i32 qy, .int .i64 n]).drew).cell
  clear h hm hkeep hF hid
  go_enter Try.func35, Try.ntmps35
  go_wp2
  go_region_held3 (fun W' => ∀ i : Nat, W'.cell? ⟨W.heap.size, i, none⟩ = ([.int .i64 6, .int .u32 (id : Int), .int .i32 b.x0, .int .i32 b.y0, .int .i32 b.x1, .int .i32 b.y1, .int .i32 px, .int .i32 py, .int .i32 qx, .int .i32 qy, .int .i64 n] : List Value)[i]?) (first | with_reducible assumption | exact cX) (first
    | (go_at_call 23; (with_reducible refine (range_any _ _ _ _ _ _).mono ?_); rintro e w1 ⟨B1, B2, rfl, hb1, hb2, hk, _, _⟩; have hA' := HA.out.same hk; have hS := (HBB.out.keeps hA'.1 (fun h => h (.inr rfl))).cell; have HA := Lib.hid hA'; have HV := Lib.hid (Kept.kd HV.out hk); clear hA'; have HQ := Lib.hid (ps_told HA.out B1 B2 b 0 hb1 hb2); clear hk hb1 hb2)
    | (go_at_call 27; (with_reducible refine HQ.out.mono ?_); rintro e w1 ⟨v, rfl, hv, hk⟩; have hA' := HA.out.same hk; have hS := (HBB.out.keeps hA'.1 (fun h => h (.inr rfl))).cell; have HA := Lib.hid hA'; have HV := Lib.hid (Kept.kd HV.out hk); clear hA'; have HV := Lib.hid (Kept.add HV.out hv); clear hk hv HQ)
    | (go_at_call 22; (with_reducible refine (ps_rrange HA.out b).mono ?_); rintro e w1 ⟨v, rfl, hv, hk⟩; have hA' := HA.out.same hk; have hS := (HBB.out.keeps hA'.1 (fun h => h (.inr rfl))).cell; have HA := Lib.hid hA'; have HV := Lib.hid (Kept.kd HV.out hk); clear hA'; have HV := Lib.hid (Kept.add HV.out hv); clear hk hv)
    | (go_at_call 26; (refine (HSame.out _ _ _ _ (HV.out _ (.tail _ (.head _))) (HV.out _ (.head _))).mono ?_); rintro e w1 ⟨rfl, hk⟩; have hA' := HA.out.same hk; have hS := (HBB.out.keeps hA'.1 (fun h => h (.inr rfl))).cell; have HA := Lib.hid hA'; have HV := Lib.hid (Kept.kd HV.out hk); clear hA'; clear hk))
  all_goals
    go_wp2
    go_ret
    exact ⟨rfl, _, HA.out.base HK.out.1 (fun k hk => .inl hk) HK.out.2⟩
set_option maxHeartbeats 4000000 in
set_option maxRecDepth 100000 in
theorem step_k7 {Far : Nat → Prop} {V W : World} {T R : Nat} {L : List (Nat × Bx)} (h : PairSt Far V W T R L L) (id : Nat) (b : Bx) (px py qx qy n : Int) (hid : El32 (id, b)) : Calls Try.prog 35 #[.pointer (some ⟨T, 0, none⟩), .pointer (some ⟨R, 0, none⟩), .agg #[.int .i64 7, .int .u32 (id : Int), .int .i32 b.x0, .int .i32 b.y0, .int .i32 b.x1, .int .i32 b.y1, .int .i32 px, .int .i32 py, .int .i32 qx, .int .i32 qy, .int .i64 n]] W (StepOut Far V T R) := by
  obtain ⟨hm, hkeep, hF⟩ := h.more (.cells #[.int .i64 7, .int .u32 (id : Int), .int .i32 b.x0, .int .i32 b.y0, .int .i32 b.x1, .int .i32 b.y1, .int .i32 px, .int .i32 py, .int .i32 qx, .int .i32 qy, .int .i64 n] 75)
  have HA := Lib.hid hm
  have HK := Lib.hid (And.intro hkeep hF)
  clear h hm hkeep hF hid
  go_enter Try.func35, Try.ntmps35
  go_wp2_with (go_at_call 28; (with_reducible refine (ps_all HA.out).mono ?_); rintro e w1 ⟨rfl, hk⟩; have HA := Lib.hid (HA.out.same hk); clear hk)
  go_ret
  exact ⟨rfl, _, HA.out.base HK.out.1 (fun k hk => .inl hk) HK.out.2⟩
set_option maxHeartbeats 4000000 in
set_option maxRecDepth 100000 in
theorem step_none {Far : Nat → Prop} {V W : World} {T R : Nat} {L : List (Nat × Bx)} (h : PairSt Far V W T R L L) (id : Nat) (b : Bx) (px py qx qy n : Int) (hid : El32 (id, b)) (k : Int) (h1 : ¬ k = 1) (h2 : ¬ k = 2) (h3 : ¬ k = 3) (h4 : ¬ k = 4) (h5 : ¬ k = 5) (h6 : ¬ k = 6) (h7 : ¬ k = 7) (h8 : ¬ k = 8) : Calls Try.prog 35 #[.pointer (some ⟨T, 0, none⟩), .pointer (some ⟨R, 0, none⟩), .agg #[.int .i64 k, .int .u32 (id : Int), .int .i32 b.x0, .int .i32 b.y0, .int .i32 b.x1, .int .i32 b.y1, .int .i32 px, .int .i32 py, .int .i32 qx, .int .i32 qy, .int .i64 n]] W (StepOut Far V T R) := by
  obtain ⟨hm, hkeep, hF⟩ := h.more (.cells #[.int .i64 k, .int .u32 (id : Int), .int .i32 b.x0, .int .i32 b.y0, .int .i32 b.x1, .int .i32 b.y1, .int .i32 px, .int .i32 py, .int .i32 qx, .int .i32 qy, .int .i64 n] 75)
  have HA := Lib.hid hm
  have HK := Lib.hid (And.intro hkeep hF)
  clear h hm hkeep hF hid
  go_enter Try.func35, Try.ntmps35
  go_wp2
  go_ret
  exact ⟨rfl, _, HA.out.base HK.out.1 (fun k hk => .inl hk) HK.out.2⟩
set_option maxHeartbeats 4000000 in
set_option maxRecDepth 100000 in
theorem step_k3 {Far : Nat → Prop} {V W : World} {T R : Nat} {L : List (Nat × Bx)} (h : PairSt Far V W T R L L) (id : Nat) (b : Bx) (px py qx qy n : Int) (hid : El32 (id, b)) : Calls Try.prog 35 #[.pointer (some ⟨T, 0, none⟩), .pointer (some ⟨R, 0, none⟩), .agg #[.int .i64 3, .int .u32 (id : Int), .int .i32 b.x0, .int .i32 b.y0, .int .i32 b.x1, .int .i32 b.y1, .int .i32 px, .int .i32 py, .int .i32 qx, .int .i32 qy, .int .i64 n]] W (StepOut Far V T R) := by
  obtain ⟨hm, hkeep, hF⟩ := h.more (.cells #[.int .i64 3, .int .u32 (id : Int), .int .i32 b.x0, .int .i32 b.y0, .int .i32 b.x1, .int .i32 b.y1, .int .i32 px, .int .i32 py, .int .i32 qx, .int .i32 qy, .int .i64 n] 75)
  obtain ⟨bx, hb, hbx⟩ : ∃ bx hb, boxR2 L id = .tuple #[.agg #[.int .i32 bx.x0, .int .i32 bx.y0, .int .i32 bx.x1, .int .i32 bx.y1], .bool hb] := ⟨lookL L id, hasL L id, rfl⟩
  have HA := Lib.hid hm
  have HBB := Lib.hid (Blk.new W 75 [.int .i64 3, .int .u32 (id : Int), .int .i32 b.x0, .int .i32 b.y0, .int .i32 b.x1, .int .i32 b.y1, .int .i32 px, .int .i32 py, .int .i32 qx, .int .i32 qy, .int .i64 n])
  have HK := Lib.hid (And.intro hkeep hF)
  have HX := Lib.hid (fun W' (h : PairSt (fun k => Far k ∨ k = W.heap.size) (W.alloc (.cells #[.int .i64 3, .int .u32 (id : Int), .int .i32 b.x0, .int .i32 b.y0, .int .i32 b.x1, .int .i32 b.y1, .int .i32 px, .int .i32 py, .int .i32 qx, .int .i32 qy, .int .i64 n] 75)) W' T R L L) => ps_box h id hid.1)
  have HY := Lib.hid (fun W' (h : PairSt (fun k => Far k ∨ k = W.heap.size) (W.alloc (.cells #[.int .i64 3, .int .u32 (id : Int), .int .i32 b.x0, .int .i32 b.y0, .int .i32 b.x1, .int .i32 b.y1, .int .i32 px, .int .i32 py, .int .i32 qx, .int .i32 qy, .int .i64 n] 75)) W' T R L L) => ps_rbox h id)
  rw [hbx] at HX HY
  clear h hm hkeep hF hid hbx
  go_enter Try.func35, Try.ntmps35
  go_wp2_with (first
    | (go_at_call 31; (with_reducible refine (HX.out _ HA.out).mono ?_); rintro e w1 ⟨rfl, hk⟩; have hA' := HA.out.same hk; have hS := (HBB.out.keeps hA'.1 (fun h => h (.inr rfl))).cell; have HA := Lib.hid hA'; clear hA'; have cS := fun o => ((HBB.out.keeps HA.out.1 (fun h => h (.inr rfl))).alloc o).cell; clear hk)
    | (go_at_call 54; (with_reducible refine (HY.out _ (HA.out.same ((Keeps.refl _ _).alloc _))).mono ?_); rintro e w2 ⟨rfl, hk⟩; have HA2 := Lib.hid ((HA.out.same ((Keeps.refl _ _).alloc _)).same hk); have c7 := fun o => (((Blk.new w1 47 [.int .i32 bx.x0, .int .i32 bx.y0, .int .i32 bx.x1, .int .i32 bx.y1]).keeps hk (fun h => h)).alloc o).cell; clear hk))
  go_ret
  exact ⟨by simp, _, (HA2.out.same ((Keeps.refl _ _).alloc _)).base HK.out.1 (fun k hk => .inl hk) HK.out.2⟩
theorem ps_rrange_cut {Far : Nat → Prop} {V W : World} {T R : Nat} {L1 L2 : List (Nat × Bx)} (h : PairSt Far V W T R L1 L2) (c : Bx) (len m : Nat) (hlen : len = (rangeL L2 c).length) (hm : m < len) : Calls Try.prog 22 #[.pointer (some ⟨R, 0, none⟩), .agg #[.int .i32 c.x0, .int .i32 c.y0, .int .i32 c.x1, .int .i32 c.y1]] W
    (fun e w' => ∃ g off cc, e = .returned (.slice (some ⟨g, off, none⟩) len cc) ∧ (m : Int) ≤ cc ∧ U32s w' (.slice (some ⟨g, off, none⟩) m (cc)) ((rangeL L2 c).take m) ∧ Keeps (fun _ => False) W w') := by
  obtain ⟨S, hR⟩ := h.ref
  refine (rrange_t R S L2 c W hR).mono ?_
  rintro e w' ⟨v, rfl, ho, hk⟩
  obtain ⟨a, cc, rfl, hu⟩ := U32s.of_own ho
  have hc : (rangeL L2 c).length ≤ cc := by
    rcases ho.2 with ⟨hv, h0⟩ | ⟨g, cap, cur, hv, _, _, hc, _⟩
    · omega
    · simp only [Value.slice.injEq] at hv
      rw [hv.2.2]; exact hc
  obtain ⟨g, off, rfl, _⟩ := hu 0 (rangeL L2 c)[0] (List.getElem?_eq_getElem (by omega))
  refine ⟨g, off, cc, by rw [hlen], by omega, ⟨some ⟨g, off, none⟩, cc, ?_, fun i x hx => ?_⟩, hk⟩
  · rw [List.length_take, Nat.min_eq_left (by omega)]
  · rw [List.getElem?_take] at hx
    split at hx
    · exact hu i x hx
    · cases hx
theorem ps_rrange_all {Far : Nat → Prop} {V W : World} {T R : Nat} {L1 L2 : List (Nat × Bx)} (h : PairSt Far V W T R L1 L2) (c : Bx) (len : Nat) (hlen : len = (rangeL L2 c).length) : Calls Try.prog 22 #[.pointer (some ⟨R, 0, none⟩), .agg #[.int .i32 c.x0, .int .i32 c.y0, .int .i32 c.x1, .int .i32 c.y1]] W
    (fun e w' => ∃ a cc, e = .returned (.slice a len cc) ∧ U32s w' (.slice a len cc) (rangeL L2 c) ∧ Keeps (fun _ => False) W w') := by
  refine (ps_rrange h c).mono ?_
  rintro e w' ⟨v, rfl, hu, hk⟩
  have e : cut 0 (rangeL L2 c) = rangeL L2 c := rfl
  rw [e] at hu
  have hu' := hu
  obtain ⟨a, cc, rfl, _⟩ := hu'
  rw [← hlen] at hu ⊢
  exact ⟨a, cc, rfl, hu, hk⟩
set_option maxHeartbeats 4000000 in
set_option maxRecDepth 100000 in
theorem step_k8a {Far : Nat → Prop} {V W : World} {T R : Nat} {L : List (Nat × Bx)} (h : PairSt Far V W T R L L) (id : Nat) (b : Bx) (px py qx qy : Int) (m : Nat) (h0 : 0 < m) (h1 : m < (rangeL L b).length) : Calls Try.prog 35 #[.pointer (some ⟨T, 0, none⟩), .pointer (some ⟨R, 0, none⟩), .agg #[.int .i64 8, .int .u32 (id : Int), .int .i32 b.x0, .int .i32 b.y0, .int .i32 b.x1, .int .i32 b.y1, .int .i32 px, .int .i32 py, .int .i32 qx, .int .i32 qy, .int .i64 (m : Int)]] W (StepOut Far V T R) := by
  obtain ⟨n, hn⟩ : ∃ n : Int, n = (m : Int) := ⟨_, rfl⟩
  obtain ⟨hm, hkeep, hF⟩ := h.more (.cells #[.int .i64 8, .int .u32 (id : Int), .int .i32 b.x0, .int .i32 b.y0, .int .i32 b.x1, .int .i32 b.y1, .int .i32 px, .int .i32 py, .int .i32 qx, .int .i32 qy, .int .i64 (m : Int)] 75)
  obtain ⟨len, hlen⟩ : ∃ len, len = (rangeL L b).length := ⟨_, rfl⟩
  have hle : (len : Int) ≤ 65536 := by have := h.small; have := range_len L b; omega
  have HR := Lib.hid (ps_rrange_cut hm b len m hlen (by omega))
  have hct : (rangeL L b).take m = cut (m : Int) (rangeL L b) := by unfold cut; rw [if_pos (by omega)]; simp
  rw [hct] at HR
  have HA := Lib.hid hm
  have HBB := Lib.hid (Blk.new W 75 [.int .i64 8, .int .u32 (id : Int), .int .i32 b.x0, .int .i32 b.y0, .int .i32 b.x1, .int .i32 b.y1, .int .i32 px, .int .i32 py, .int .i32 qx, .int .i32 qy, .int .i64 (m : Int)])
  have HK := Lib.hid (And.intro hkeep hF)
  have HSame := Lib.hid (ps_same (m : Int) L h.small)
  have hml : (m : Int) < len := by omega
  have hm0 : (0 : Int) < m := by omega
  have hm00 : (0 : Int) ≤ m := by omega
  clear h hm hkeep hF hct hlen h0 h1 hn
  go_enter Try.func35, Try.ntmps35
  go_wp2_with (go_at_call 22; (with_reducible refine HR.out.mono ?_); rintro e w1 ⟨g, off, cc, rfl, hcc, hv, hk⟩; have hA' := HA.out.same hk; have hS := (HBB.out.keeps hA'.1 (fun h => h (.inr rfl))).cell; have HA := Lib.hid hA'; clear hA'; have hk' := hk.drew; have HV := Lib.hid (Kept.add (Kept.nil w1.drew) (U32s.kd hv (Keeps.refl _ w1).drew)); have HA := Lib.hid (HA.out.same (Keeps.refl _ w1).drew); have cX := (HBB.out.keeps HA.out.1 (fun h => h (.inr rfl))).cell; clear hk hk' hv)
  go_region_held3 (fun W' => ∀ i : Nat, W'.cell? ⟨W.heap.size, i, none⟩ = ([.int .i64 8, .int .u32 (id : Int), .int .i32 b.x0, .int .i32 b.y0, .int .i32 b.x1, .int .i32 b.y1, .int .i32 px, .int .i32 py, .int .i32 qx, .int .i32 qy, .int .i64 (m : Int)] : List Value)[i]?) (first | with_reducible assumption | exact cX) (first | (go_at_call 23; (with_reducible refine (range_any _ _ _ _ _ _).mono ?_); rintro e w1 ⟨B1, B2, rfl, hb1, hb2, hk, _, _⟩; have hA' := HA.out.same hk; have hS := (HBB.out.keeps hA'.1 (fun h => h (.inr rfl))).cell; have HA := Lib.hid hA'; have HV := Lib.hid (Kept.kd HV.out hk); clear hA'; have HQ := Lib.hid (fun most => ps_told HA.out B1 B2 b most hb1 hb2); clear hk hb1 hb2) | (go_at_call 27; (with_reducible refine (HQ.out _).mono ?_); rintro e w1 ⟨v, rfl, hv, hk⟩; have hA' := HA.out.same hk; have hS := (HBB.out.keeps hA'.1 (fun h => h (.inr rfl))).cell; have HA := Lib.hid hA'; have HV := Lib.hid (Kept.kd HV.out hk); clear hA'; have HV := Lib.hid (Kept.add HV.out hv); clear hk hv HQ) | (go_at_call 26; (refine (HSame.out _ _ _ _ (HV.out _ (.head _)) (HV.out _ (.tail _ (.head _)))).mono ?_); rintro e w1 ⟨rfl, hk⟩; have hA' := HA.out.same hk; have hS := (HBB.out.keeps hA'.1 (fun h => h (.inr rfl))).cell; have HA := Lib.hid hA'; have HV := Lib.hid (Kept.kd HV.out hk); clear hA'; clear hk))
  all_goals
    go_wp2
    go_ret
    exact ⟨rfl, _, HA.out.base HK.out.1 (fun k hk => .inl hk) HK.out.2⟩
set_option maxHeartbeats 4000000 in
set_option maxRecDepth 100000 in
theorem step_k8b {Far : Nat → Prop} {V W : World} {T R : Nat} {L : List (Nat × Bx)} (h : PairSt Far V W T R L L) (id : Nat) (b : Bx) (px py qx qy n : Int) (hid : El32 (id, b)) (hno : n ≤ 0 ∨ ((rangeL L b).length : Int) ≤ n) : Calls Try.prog 35 #[.pointer (some ⟨T, 0, none⟩), .pointer (some ⟨R, 0, none⟩), .agg #[.int .i64 8, .int .u32 (id : Int), .int .i32 b.x0, .int .i32 b.y0, .int .i32 b.x1, .int .i32 b.y1, .int .i32 px, .int .i32 py, .int .i32 qx, .int .i32 qy, .int .i64 n]] W (StepOut Far V T R) := by
  obtain ⟨hm, hkeep, hF⟩ := h.more (.cells #[.int .i64 8, .int .u32 (id : Int), .int .i32 b.x0, .int .i32 b.y0, .int .i32 b.x1, .int .i32 b.y1, .int .i32 px, .int .i32 py, .int .i32 qx, .int .i32 qy, .int .i64 n] 75)
  obtain ⟨len, hlen⟩ : ∃ len, len = (rangeL L b).length := ⟨_, rfl⟩
  have hle : (len : Int) ≤ 65536 := by have := h.small; have := range_len L b; omega
  have HR := Lib.hid (ps_rrange_all hm b len hlen)
  have hct : cut n (rangeL L b) = rangeL L b := by
    unfold cut
    split
    · exact List.take_of_length_le (by omega)
    · rfl
  have HSame := Lib.hid (ps_same n L h.small)
  have HCT := Lib.hid hct
  have HA := Lib.hid hm
  have HBB := Lib.hid (Blk.new W 75 [.int .i64 8, .int .u32 (id : Int), .int .i32 b.x0, .int .i32 b.y0, .int .i32 b.x1, .int .i32 b.y1, .int .i32 px, .int .i32 py, .int .i32 qx, .int .i32 qy, .int .i64 n])
  have HK := Lib.hid (And.intro hkeep hF)
  rw [← hlen] at hno
  clear h hm hkeep hF hct hlen
  rcases hno with hno | hno
  · have hn1 : ¬ (0 : Int) < n := by omega
    clear hno
    go_enter Try.func35, Try.ntmps35
    go_wp2_with (go_at_call 22; (with_reducible refine HR.out.mono ?_); rintro e w1 ⟨a, cc, rfl, hv, hk⟩; have hA' := HA.out.same hk; have hS := (HBB.out.keeps hA'.1 (fun h => h (.inr rfl))).cell; have HA := Lib.hid hA'; clear hA'; rw [← HCT.out] at hv; have HV := Lib.hid (Kept.add (Kept.nil w1.drew) (U32s.kd hv (Keeps.refl _ w1).drew)); have HA := Lib.hid (HA.out.same (Keeps.refl _ w1).drew); have cX := (HBB.out.keeps HA.out.1 (fun h => h (.inr rfl))).cell; clear hk hv)
    go_region_held3 (fun W' => ∀ i : Nat, W'.cell? ⟨W.heap.size, i, none⟩ = ([.int .i64 8, .int .u32 (id : Int), .int .i32 b.x0, .int .i32 b.y0, .int .i32 b.x1, .int .i32 b.y1, .int .i32 px, .int .i32 py, .int .i32 qx, .int .i32 qy, .int .i64 n] : List Value)[i]?) (first | with_reducible assumption | exact cX) (first | (go_at_call 23; (with_reducible refine (range_any _ _ _ _ _ _).mono ?_); rintro e w1 ⟨B1, B2, rfl, hb1, hb2, hk, _, _⟩; have hA' := HA.out.same hk; have hS := (HBB.out.keeps hA'.1 (fun h => h (.inr rfl))).cell; have HA := Lib.hid hA'; have HV := Lib.hid (Kept.kd HV.out hk); clear hA'; have HQ := Lib.hid (fun most => ps_told HA.out B1 B2 b most hb1 hb2); clear hk hb1 hb2) | (go_at_call 27; (with_reducible refine (HQ.out _).mono ?_); rintro e w1 ⟨v, rfl, hv, hk⟩; have hA' := HA.out.same hk; have hS := (HBB.out.keeps hA'.1 (fun h => h (.inr rfl))).cell; have HA := Lib.hid hA'; have HV := Lib.hid (Kept.kd HV.out hk); clear hA'; have HV := Lib.hid (Kept.add HV.out hv); clear hk hv HQ) | (go_at_call 26; (refine (HSame.out _ _ _ _ (HV.out _ (.head _)) (HV.out _ (.tail _ (.head _)))).mono ?_); rintro e w1 ⟨rfl, hk⟩; have hA' := HA.out.same hk; have hS := (HBB.out.keeps hA'.1 (fun h => h (.inr rfl))).cell; have HA := Lib.hid hA'; have HV := Lib.hid (Kept.kd HV.out hk); clear hA'; clear hk))
    all_goals
      go_wp2
      go_ret
      exact ⟨rfl, _, HA.out.base HK.out.1 (fun k hk => .inl hk) HK.out.2⟩
  · have hn2 : ¬ n < (len : Int) := by omega
    clear hno
    by_cases hn1 : (0 : Int) < n
    all_goals
      go_enter Try.func35, Try.ntmps35
      go_wp2_with (go_at_call 22; (with_reducible refine HR.out.mono ?_); rintro e w1 ⟨a, cc, rfl, hv, hk⟩; have hA' := HA.out.same hk; have hS := (HBB.out.keeps hA'.1 (fun h => h (.inr rfl))).cell; have HA := Lib.hid hA'; clear hA'; rw [← HCT.out] at hv; have HV := Lib.hid (Kept.add (Kept.nil w1.drew) (U32s.kd hv (Keeps.refl _ w1).drew)); have HA := Lib.hid (HA.out.same (Keeps.refl _ w1).drew); have cX := (HBB.out.keeps HA.out.1 (fun h => h (.inr rfl))).cell; clear hk hv)
      go_region_held3 (fun W' => ∀ i : Nat, W'.cell? ⟨W.heap.size, i, none⟩ = ([.int .i64 8, .int .u32 (id : Int), .int .i32 b.x0, .int .i32 b.y0, .int .i32 b.x1, .int .i32 b.y1, .int .i32 px, .int .i32 py, .int .i32 qx, .int .i32 qy, .int .i64 n] : List Value)[i]?) (first | with_reducible assumption | exact cX) (first | (go_at_call 23; (with_reducible refine (range_any _ _ _ _ _ _).mono ?_); rintro e w1 ⟨B1, B2, rfl, hb1, hb2, hk, _, _⟩; have hA' := HA.out.same hk; have hS := (HBB.out.keeps hA'.1 (fun h => h (.inr rfl))).cell; have HA := Lib.hid hA'; have HV := Lib.hid (Kept.kd HV.out hk); clear hA'; have HQ := Lib.hid (fun most => ps_told HA.out B1 B2 b most hb1 hb2); clear hk hb1 hb2) | (go_at_call 27; (with_reducible refine (HQ.out _).mono ?_); rintro e w1 ⟨v, rfl, hv, hk⟩; have hA' := HA.out.same hk; have hS := (HBB.out.keeps hA'.1 (fun h => h (.inr rfl))).cell; have HA := Lib.hid hA'; have HV := Lib.hid (Kept.kd HV.out hk); clear hA'; have HV := Lib.hid (Kept.add HV.out hv); clear hk hv HQ) | (go_at_call 26; (refine (HSame.out _ _ _ _ (HV.out _ (.head _)) (HV.out _ (.tail _ (.head _)))).mono ?_); rintro e w1 ⟨rfl, hk⟩; have hA' := HA.out.same hk; have hS := (HBB.out.keeps hA'.1 (fun h => h (.inr rfl))).cell; have HA := Lib.hid hA'; have HV := Lib.hid (Kept.kd HV.out hk); clear hA'; clear hk))
      all_goals
        go_wp2
        go_ret
        exact ⟨rfl, _, HA.out.base HK.out.1 (fun k hk => .inl hk) HK.out.2⟩
theorem step_t {Far : Nat → Prop} {V W : World} {T R : Nat} {L : List (Nat × Bx)} (h : PairSt Far V W T R L L) (id : Nat) (b : Bx) (px py qx qy n : Int) (hid : El32 (id, b)) (k : Int) : Calls Try.prog 35 #[.pointer (some ⟨T, 0, none⟩), .pointer (some ⟨R, 0, none⟩), .agg #[.int .i64 k, .int .u32 (id : Int), .int .i32 b.x0, .int .i32 b.y0, .int .i32 b.x1, .int .i32 b.y1, .int .i32 px, .int .i32 py, .int .i32 qx, .int .i32 qy, .int .i64 n]] W (StepOut Far V T R) := by
  by_cases h1 : k = 1
  · subst h1; exact step_k1 h id b px py qx qy n hid
  by_cases h2 : k = 2
  · subst h2; exact step_k2 h id b px py qx qy n hid
  by_cases h3 : k = 3
  · subst h3; exact step_k3 h id b px py qx qy n hid
  by_cases h4 : k = 4
  · subst h4; exact step_k4 h id b px py qx qy n hid
  by_cases h5 : k = 5
  · subst h5; exact step_k5 h id b px py qx qy n hid
  by_cases h6 : k = 6
  · subst h6; exact step_k6 h id b px py qx qy n hid
  by_cases h7 : k = 7
  · subst h7; exact step_k7 h id b px py qx qy n hid
  by_cases h8 : k = 8
  · subst h8
    by_cases hn : 0 < n ∧ n < ((rangeL L b).length : Int)
    · obtain ⟨m, rfl⟩ : ∃ m : Nat, n = (m : Int) := ⟨n.toNat, by omega⟩
      exact step_k8a h id b px py qx qy m (by omega) (by omega)
    · exact step_k8b h id b px py qx qy n hid (by omega)
  exact step_none h id b px py qx qy n hid k h1 h2 h3 h4 h5 h6 h7 h8
end Tree
end Go.Proofs.Ytndghakagogmcaa
