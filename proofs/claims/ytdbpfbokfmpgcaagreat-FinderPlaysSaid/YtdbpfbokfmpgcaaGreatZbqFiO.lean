/-
FiO: the sieve over an index inside: At, Crossing, Put, Del, by what the index inside does. (Printed by wip/gen_fio.py.)
-/
import Derived.Test.YtdbpfbokfmpgcaaGreatZbpFiHFiJFiKFiMFiN
set_option linter.unusedVariables false
set_option linter.unusedSimpArgs false
set_option linter.ambiguousOpen false
set_option maxHeartbeats 16000000
attribute [local go_sem] Go.Oper.semAt_some
namespace Go.Proofs.YtdbpfbokfmpgcaaGreat
theorem ZAa {p : Prop} (h : p := by exact kf (by first | exact HK5.out | (refine HK5.out.trans ?_; (repeat (first | exact Keeps.refl _ _ | refine Keeps.alloc ?_ _ | refine Keeps.drew ?_))) | (repeat (first | exact Keeps.refl _ _ | refine Keeps.alloc ?_ _ | refine Keeps.drew ?_)))) : p := h
theorem Zg {p : Prop} (h : p := by
 go_wp2
 go_ret
 exact ⟨rfl, HK.out.trans Z6⟩) : p := h
theorem Zw {p : Prop} (h : p := by
 go_wp2
 go_ret
 obtain ⟨k1, e2, hyes⟩ := HK.out
 obtain ⟨hm7, k7⟩ := HM7.out
 obtain ⟨k6, hx⟩ := HX6.out
 refine ⟨by rw [hyes]; rfl, _, _, k1.trans (by first | exact HKx.out.drew | exact HKx.out), k6, hx, by first | exact k7 | exact Keeps.trans ((Keeps.refl _ _).drew) k7, by rw [← e2]; exact hm7⟩) : p := h
open Go.RowKit Go.Shelf
namespace Fi
open Mem Gr Gs
open So (vals)
theorem kf {S : Nat → Prop} {w w' : World} (h : Keeps (fun _ => False) w w') : Keeps S w w' := h.mono (fun _ _ h => h.elim)
theorem mS_At (a : Option Addr) (W : World) : (method 317 63 (.pointer a) "At").run Tryz.prog W = .ok (70, .pointer a) W := by kernel_rfl
theorem mS_Crossing (a : Option Addr) (W : World) : (method 317 63 (.pointer a) "Crossing").run Tryz.prog W = .ok (71, .pointer a) W := by kernel_rfl
theorem mS_Put (a : Option Addr) (W : World) : (method 317 63 (.pointer a) "Put").run Tryz.prog W = .ok (74, .pointer a) W := by kernel_rfl
theorem mS_Del (a : Option Addr) (W : World) : (method 317 63 (.pointer a) "Del").run Tryz.prog W = .ok (72, .pointer a) W := by kernel_rfl
theorem mS_Len (a : Option Addr) (W : World) : (method 317 63 (.pointer a) "Len").run Tryz.prog W = .ok (73, .pointer a) W := by kernel_rfl
theorem mV_At (a : Option Addr) (W : World) : (method 317 67 (.pointer a) "At").run Tryz.prog W = .ok (146, .pointer a) W := by kernel_rfl
theorem mV_Crossing (a : Option Addr) (W : World) : (method 317 67 (.pointer a) "Crossing").run Tryz.prog W = .ok (147, .pointer a) W := by kernel_rfl
theorem mV_Put (a : Option Addr) (W : World) : (method 317 67 (.pointer a) "Put").run Tryz.prog W = .ok (149, .pointer a) W := by kernel_rfl
theorem mV_Del (a : Option Addr) (W : World) : (method 317 67 (.pointer a) "Del").run Tryz.prog W = .ok (148, .pointer a) W := by kernel_rfl
theorem mG_At (a : Option Addr) (W : World) : (method 317 64 (.pointer a) "At").run Tryz.prog W = .ok (117, .pointer a) W := by kernel_rfl
theorem mG_Crossing (a : Option Addr) (W : World) : (method 317 64 (.pointer a) "Crossing").run Tryz.prog W = .ok (118, .pointer a) W := by kernel_rfl
theorem mG_Put (a : Option Addr) (W : World) : (method 317 64 (.pointer a) "Put").run Tryz.prog W = .ok (121, .pointer a) W := by kernel_rfl
theorem mG_Del (a : Option Addr) (W : World) : (method 317 64 (.pointer a) "Del").run Tryz.prog W = .ok (119, .pointer a) W := by kernel_rfl
theorem mT_At (a : Option Addr) (W : World) : (method 317 70 (.pointer a) "At").run Tryz.prog W = .ok (150, .pointer a) W := by kernel_rfl
theorem mT_Crossing (a : Option Addr) (W : World) : (method 317 70 (.pointer a) "Crossing").run Tryz.prog W = .ok (151, .pointer a) W := by kernel_rfl
theorem mT_Put (a : Option Addr) (W : World) : (method 317 70 (.pointer a) "Put").run Tryz.prog W = .ok (155, .pointer a) W := by kernel_rfl
theorem mT_Del (a : Option Addr) (W : World) : (method 317 70 (.pointer a) "Del").run Tryz.prog W = .ok (152, .pointer a) W := by kernel_rfl
section
variable {w : World} {B r I : Nat} {L : List (Nat × Bx)}
theorem sieve_at_G (hB : Blk w B 69 [Value.iface 64 (.pointer (some ⟨I, 0, none⟩)), .map (some r)]) (hL : OkL L) (px py : Int)
 (hin : ∀ W, Keeps (fun _ => False) w W → Calls Tryz.prog 117 #[.pointer (some ⟨I, 0, none⟩), .agg #[.int .i32 px, .int .i32 py]] W fun e w' => ∃ tv, e = .returned tv ∧ Keeps (fun _ => False) W w' ∧ Cand w' B 1 r L (coversP px py) tv) :
 Calls Tryz.prog 146 #[.pointer (some ⟨B, 0, none⟩), .agg #[.int .i32 px, .int .i32 py]] w (TellA L (coversP px py) w) := by
 have k1 : Keeps (fun _ => False) w (w.alloc (.cells #[.int .i32 px, .int .i32 py] 37)) := by (repeat (first | exact Keeps.refl _ _ | refine Keeps.alloc ?_ _ | refine Keeps.drew ?_))
 have HSN := Lib.hid (show ∀ W', Keeps (fun _ => False) (w.alloc (.cells #[.int .i32 px, .int .i32 py] 37)) W' → ((∀ i : Nat, W'.cell? ⟨B, i, none⟩ = ([Value.iface 64 (.pointer (some ⟨I, 0, none⟩)), .map (some r)] : List Value)[i]?) ∧ ∀ i : Nat, W'.cell? ⟨w.heap.size, i, none⟩ = ([.int .i32 px, .int .i32 py] : List Value)[i]?) from fun W' hk => ⟨(hB.keeps (k1.trans hk) (fun h => h)).cell, ((Blk.new w 37 [.int .i32 px, .int .i32 py]).keeps hk (fun h => h)).cell⟩)
 have HC := Lib.hid (fun W' (hk : Keeps (fun _ => False) (w.alloc (.cells #[.int .i32 px, .int .i32 py] 37)) W') => hin W' (k1.trans hk))
 have HT := Lib.hid (fun W' tv pv (h : Cand W' B 1 r L (coversP px py) tv) (hp : Pick W' (coversP px py) pv) => h.tell hp hL (fun _ _ h => h))
 have HK := Lib.hid k1
 have hm := mG_At (some ⟨I, 0, none⟩)
 clear hB hL k1 hin
 go_enter Tryz.func146, Tryz.ntmps146
 go_wp2
 go_region_held3 (fun W => ((∀ i : Nat, W.cell? ⟨B, i, none⟩ = ([Value.iface 64 (.pointer (some ⟨I, 0, none⟩)), .map (some r)] : List Value)[i]?) ∧ ∀ i : Nat, W.cell? ⟨w.heap.size, i, none⟩ = ([.int .i32 px, .int .i32 py] : List Value)[i]?)) (first | with_reducible assumption | exact HSN.out _ Z6) (first
  | (go_at_call 117; (with_reducible refine (HC.out _ Z6).mono ?_); rintro e w5 ⟨tv, rfl, k5, hc⟩; have HK5 := Lib.hid (show Keeps (fun _ => False) (w.alloc (.cells #[.int .i32 px, .int .i32 py] 37)) w5 from Keeps.trans Z4 k5); have HC5 := Lib.hid hc; clear k5 hc)
  | (go_at_call 77; (with_reducible refine (pick_covers _ _ _).mono ?_); rintro e w6 ⟨pv, rfl, k6, hp⟩; have HQ6 := Lib.hid (show Keeps (fun _ => False) w5 w6 from Keeps.trans Z4 k6); have HK6 := Lib.hid (HK5.out.trans HQ6.out); have HP6 := Lib.hid hp; clear k6 hp)
  | (go_at_call 75; (with_reducible refine (HT.out _ _ _ (HC5.out.kd HQ6.out) HP6.out).mono ?_); rintro e w7 ⟨VB, V, rfl, k7, hv, ha⟩; have HK7 := Lib.hid (HK6.out.trans k7); have HV := Lib.hid (And.intro hv ha); clear k7 hv ha))
 all_goals
  exact ZI
theorem sieve_cross_G (hB : Blk w B 69 [Value.iface 64 (.pointer (some ⟨I, 0, none⟩)), .map (some r)]) (hL : OkL L) (px py qx qy : Int)
 (hin : ∀ W, Keeps (fun _ => False) w W → Calls Tryz.prog 118 #[.pointer (some ⟨I, 0, none⟩), .agg #[.int .i32 px, .int .i32 py], .agg #[.int .i32 qx, .int .i32 qy]] W fun e w' => ∃ tv, e = .returned tv ∧ Keeps (fun _ => False) W w' ∧ Cand w' B 1 r L (tkC px py qx qy) tv) :
 Calls Tryz.prog 147 #[.pointer (some ⟨B, 0, none⟩), .agg #[.int .i32 px, .int .i32 py], .agg #[.int .i32 qx, .int .i32 qy]] w (TellA L (tkC px py qx qy) w) := by
 have k1 : Keeps (fun _ => False) w ((w.alloc (.cells #[.int .i32 px, .int .i32 py] 37)).alloc (.cells #[.int .i32 qx, .int .i32 qy] 37)) := by (repeat (first | exact Keeps.refl _ _ | refine Keeps.alloc ?_ _ | refine Keeps.drew ?_))
 have bq := Blk.new (w.alloc (.cells #[.int .i32 px, .int .i32 py] 37)) 37 [.int .i32 qx, .int .i32 qy]
 simp only [World.size_alloc] at bq
 have HSN := Lib.hid (show ∀ W', Keeps (fun _ => False) ((w.alloc (.cells #[.int .i32 px, .int .i32 py] 37)).alloc (.cells #[.int .i32 qx, .int .i32 qy] 37)) W' → ((∀ i : Nat, W'.cell? ⟨B, i, none⟩ = ([Value.iface 64 (.pointer (some ⟨I, 0, none⟩)), .map (some r)] : List Value)[i]?) ∧ (∀ i : Nat, W'.cell? ⟨w.heap.size, i, none⟩ = ([.int .i32 px, .int .i32 py] : List Value)[i]?) ∧ ∀ i : Nat, W'.cell? ⟨w.heap.size + 1, i, none⟩ = ([.int .i32 qx, .int .i32 qy] : List Value)[i]?) from fun W' hk => ⟨(hB.keeps (k1.trans hk) (fun h => h)).cell, (((Blk.new w 37 [.int .i32 px, .int .i32 py]).alloc _).keeps hk (fun h => h)).cell, (bq.keeps hk (fun h => h)).cell⟩)
 have HC := Lib.hid (fun W' (hk : Keeps (fun _ => False) ((w.alloc (.cells #[.int .i32 px, .int .i32 py] 37)).alloc (.cells #[.int .i32 qx, .int .i32 qy] 37)) W') => hin W' (k1.trans hk))
 have HT := Lib.hid (fun W' tv pv (h : Cand W' B 1 r L (tkC px py qx qy) tv) (hp : Pick W' (tkC px py qx qy) pv) => h.tell hp hL (fun _ _ h => h))
 have HK := Lib.hid k1
 have hm := mG_Crossing (some ⟨I, 0, none⟩)
 clear hB hL k1 hin bq
 go_enter Tryz.func147, Tryz.ntmps147
 go_wp2
 go_region_held3 (fun W => ((∀ i : Nat, W.cell? ⟨B, i, none⟩ = ([Value.iface 64 (.pointer (some ⟨I, 0, none⟩)), .map (some r)] : List Value)[i]?) ∧ (∀ i : Nat, W.cell? ⟨w.heap.size, i, none⟩ = ([.int .i32 px, .int .i32 py] : List Value)[i]?) ∧ ∀ i : Nat, W.cell? ⟨w.heap.size + 1, i, none⟩ = ([.int .i32 qx, .int .i32 qy] : List Value)[i]?)) (first | with_reducible assumption | exact HSN.out _ Z6) (first
  | (go_at_call 118; (with_reducible refine (HC.out _ Z6).mono ?_); rintro e w5 ⟨tv, rfl, k5, hc⟩; have HK5 := Lib.hid (show Keeps (fun _ => False) ((w.alloc (.cells #[.int .i32 px, .int .i32 py] 37)).alloc (.cells #[.int .i32 qx, .int .i32 qy] 37)) w5 from Keeps.trans Z4 k5); have HC5 := Lib.hid hc; clear k5 hc)
  | (go_at_call 78; (with_reducible refine (pick_meets _ _ _ _ _).mono ?_); rintro e w6 ⟨pv, rfl, k6, hp⟩; have HQ6 := Lib.hid (show Keeps (fun _ => False) w5 w6 from Keeps.trans Z4 k6); have HK6 := Lib.hid (HK5.out.trans HQ6.out); have HP6 := Lib.hid hp; clear k6 hp)
  | (go_at_call 75; (with_reducible refine (HT.out _ _ _ (HC5.out.kd HQ6.out) HP6.out).mono ?_); rintro e w7 ⟨VB, V, rfl, k7, hv, ha⟩; have HK7 := Lib.hid (HK6.out.trans k7); have HV := Lib.hid (And.intro hv ha); clear k7 hv ha))
 all_goals
  exact ZI
theorem sieve_put_no_G (hB : Blk w B 69 [Value.iface 64 (.pointer (some ⟨I, 0, none⟩)), .map (some r)]) (hM : MapL kid w r (kvB L)) (id : Nat) (b : Bx) (hno : (putF L id b).1 ≠ 0) :
 Calls Tryz.prog 149 #[.pointer (some ⟨B, 0, none⟩), .int .u32 (id : Int), .agg #[.int .i32 b.x0, .int .i32 b.y0, .int .i32 b.x1, .int .i32 b.y1]] w (Gave (.int .i64 (putF L id b).1) w) := by
 have k1 : Keeps (fun _ => False) w (w.alloc (.cells #[.int .i32 b.x0, .int .i32 b.y0, .int .i32 b.x1, .int .i32 b.y1] 39)) := by (repeat (first | exact Keeps.refl _ _ | refine Keeps.alloc ?_ _ | refine Keeps.drew ?_))
 have HSN := Lib.hid (show ∀ W', Keeps (fun _ => False) (w.alloc (.cells #[.int .i32 b.x0, .int .i32 b.y0, .int .i32 b.x1, .int .i32 b.y1] 39)) W' → ((∀ i : Nat, W'.cell? ⟨B, i, none⟩ = ([Value.iface 64 (.pointer (some ⟨I, 0, none⟩)), .map (some r)] : List Value)[i]?) ∧ ∀ i : Nat, W'.cell? ⟨w.heap.size, i, none⟩ = ([.int .i32 b.x0, .int .i32 b.y0, .int .i32 b.x1, .int .i32 b.y1] : List Value)[i]?) from fun W' hk => ⟨(hB.keeps (k1.trans hk) (fun h => h)).cell, ((Blk.new w 39 [.int .i32 b.x0, .int .i32 b.y0, .int .i32 b.x1, .int .i32 b.y1]).keeps hk (fun h => h)).cell⟩)
 have hSc : ScB w B 1 r := ⟨_, _, hB, rfl⟩
 have HZ := Lib.hid (fun W (k : Keeps (fun _ => False) (w.alloc (.cells #[.int .i32 b.x0, .int .i32 b.y0, .int .i32 b.x1, .int .i32 b.y1] 39)) W) => wrong_t (hSc.kd (k1.trans k)) (hM.keeps (k1.trans k) (fun h => h)) id b)
 have HK := Lib.hid k1
 obtain ⟨v, hv⟩ := ZE ((putF L id b).1)
 rw [← hv] at hno HZ ⊢
 clear hB hM k1 hSc hv
 go_enter Tryz.func149, Tryz.ntmps149
 go_wp2
 go_region_held3 (fun W => ((∀ i : Nat, W.cell? ⟨B, i, none⟩ = ([Value.iface 64 (.pointer (some ⟨I, 0, none⟩)), .map (some r)] : List Value)[i]?) ∧ ∀ i : Nat, W.cell? ⟨w.heap.size, i, none⟩ = ([.int .i32 b.x0, .int .i32 b.y0, .int .i32 b.x1, .int .i32 b.y1] : List Value)[i]?)) (first | with_reducible assumption | exact HSN.out _ Z6) (first
  | (go_at_call 79; (with_reducible refine (HZ.out _ Z6).mono ?_); rintro e w5 ⟨rfl, k5⟩; have HK5 := Lib.hid (show Keeps (fun _ => False) (w.alloc (.cells #[.int .i32 b.x0, .int .i32 b.y0, .int .i32 b.x1, .int .i32 b.y1] 39)) w5 from Keeps.trans Z4 k5); clear k5))
 all_goals
  exact Zg
theorem sieve_put_yes_G (hB : Blk w B 69 [Value.iface 64 (.pointer (some ⟨I, 0, none⟩)), .map (some r)]) (hM : MapL kid w r (kvB L)) (id : Nat) (b : Bx) (hyes : (putF L id b).1 = 0) (FI : Nat → Prop) (X : World → World → Prop) (hFl : ∀ k, FI k → k < w.heap.size) (hFB : ¬ FI B) (hFr : ¬ FI r)
 (hin : ∀ W, Keeps (fun _ => False) w W → Calls Tryz.prog 121 #[.pointer (some ⟨I, 0, none⟩), .int .u32 (id : Int), .agg #[.int .i32 b.x0, .int .i32 b.y0, .int .i32 b.x1, .int .i32 b.y1]] W fun e w' => e = .returned (.int .i64 0) ∧ Keeps FI W w' ∧ X W w') :
 Calls Tryz.prog 149 #[.pointer (some ⟨B, 0, none⟩), .int .u32 (id : Int), .agg #[.int .i32 b.x0, .int .i32 b.y0, .int .i32 b.x1, .int .i32 b.y1]] w (fun e w' => e = .returned (.int .i64 0) ∧ ∃ W1 W2, Keeps (fun _ => False) w W1 ∧ Keeps FI W1 W2 ∧ X W1 W2 ∧ Keeps (fun k => k = r) W2 w' ∧ MapL kid w' r (kvB (L ++ [(id, b)]))) := by
 have e2 : (putF L id b).2 = L ++ [(id, b)] := by
  exact Zp
 have k1 : Keeps (fun _ => False) w (w.alloc (.cells #[.int .i32 b.x0, .int .i32 b.y0, .int .i32 b.x1, .int .i32 b.y1] 39)) := by (repeat (first | exact Keeps.refl _ _ | refine Keeps.alloc ?_ _ | refine Keeps.drew ?_))
 have hx : ¬ FI w.heap.size := fun h => by have := hFl _ h; omega
 have hBr := hM.ne hB
 have hrl := hM.lt
 have HSN := Lib.hid (show ∀ W', Keeps (fun k => FI k ∨ k = r) (w.alloc (.cells #[.int .i32 b.x0, .int .i32 b.y0, .int .i32 b.x1, .int .i32 b.y1] 39)) W' → ((∀ i : Nat, W'.cell? ⟨B, i, none⟩ = ([Value.iface 64 (.pointer (some ⟨I, 0, none⟩)), .map (some r)] : List Value)[i]?) ∧ ∀ i : Nat, W'.cell? ⟨w.heap.size, i, none⟩ = ([.int .i32 b.x0, .int .i32 b.y0, .int .i32 b.x1, .int .i32 b.y1] : List Value)[i]?) from fun W' hk => ⟨((hB.keeps k1 (fun h => h)).keeps hk (fun h => h.elim hFB hBr)).cell, ((Blk.new w 39 [.int .i32 b.x0, .int .i32 b.y0, .int .i32 b.x1, .int .i32 b.y1]).keeps hk (fun h => h.elim hx (fun e => Z8))).cell⟩)
 have hSc : ScB w B 1 r := ⟨_, _, hB, rfl⟩
 have HZ := Lib.hid (fun W (k : Keeps (fun _ => False) (w.alloc (.cells #[.int .i32 b.x0, .int .i32 b.y0, .int .i32 b.x1, .int .i32 b.y1] 39)) W) => hyes ▸ wrong_t (hSc.kd (k1.trans k)) (hM.keeps (k1.trans k) (fun h => h)) id b)
 have HI := Lib.hid (fun W (k : Keeps (fun _ => False) (w.alloc (.cells #[.int .i32 b.x0, .int .i32 b.y0, .int .i32 b.x1, .int .i32 b.y1] 39)) W) => hin W (k1.trans k))
 have HP := Lib.hid (fun W (k : Keeps FI (w.alloc (.cells #[.int .i32 b.x0, .int .i32 b.y0, .int .i32 b.x1, .int .i32 b.y1] 39)) W) => sput_t ((hSc.kd k1).keeps k hFB) ((hM.keeps k1 (fun h => h)).keeps k hFr) id b)
 have HK := Lib.hid (And.intro k1 (And.intro e2 hyes))
 have hm := mG_Put (some ⟨I, 0, none⟩)
 clear hB hM k1 hSc e2 hyes hin hFl hFB hFr hx hBr hrl
 go_enter Tryz.func149, Tryz.ntmps149
 go_wp2
 go_region_held3 (fun W => ((∀ i : Nat, W.cell? ⟨B, i, none⟩ = ([Value.iface 64 (.pointer (some ⟨I, 0, none⟩)), .map (some r)] : List Value)[i]?) ∧ ∀ i : Nat, W.cell? ⟨w.heap.size, i, none⟩ = ([.int .i32 b.x0, .int .i32 b.y0, .int .i32 b.x1, .int .i32 b.y1] : List Value)[i]?)) (first | with_reducible assumption | exact HSN.out _ ZAa) (first
  | (go_at_call 79; (with_reducible refine (HZ.out _ Z6).mono ?_); rintro e w5 ⟨rfl, k5⟩; have HK5 := Lib.hid (show Keeps (fun _ => False) (w.alloc (.cells #[.int .i32 b.x0, .int .i32 b.y0, .int .i32 b.x1, .int .i32 b.y1] 39)) w5 from Keeps.trans Z4 k5); clear k5))
 all_goals
  go_wp2
  refine (show ∀ Wx, Keeps (fun _ => False) (w.alloc (.cells #[.int .i32 b.x0, .int .i32 b.y0, .int .i32 b.x1, .int .i32 b.y1] 39)) Wx → Code.wp _ _ _ _ Wx from ?_) _ Z6
  intro Wx kx
  have HKx := Lib.hid kx
  clear kx
  go_region_held3 (fun W => ((∀ i : Nat, W.cell? ⟨B, i, none⟩ = ([Value.iface 64 (.pointer (some ⟨I, 0, none⟩)), .map (some r)] : List Value)[i]?) ∧ ∀ i : Nat, W.cell? ⟨w.heap.size, i, none⟩ = ([.int .i32 b.x0, .int .i32 b.y0, .int .i32 b.x1, .int .i32 b.y1] : List Value)[i]?)) (first | with_reducible assumption | exact HSN.out _ (by first | exact HL6.out | exact HL6.out.drew | exact kf HKx.out | exact kf HKx.out.drew)) (first
   | (go_at_call 121; (with_reducible refine (HI.out _ (by first | exact HKx.out | exact HKx.out.drew)).mono ?_); rintro e w6 ⟨rfl, k6, hx⟩; have HX6 := Lib.hid (And.intro k6 hx); have HK6 := Lib.hid (show Keeps FI (w.alloc (.cells #[.int .i32 b.x0, .int .i32 b.y0, .int .i32 b.x1, .int .i32 b.y1] 39)) w6 from Keeps.trans (by first | exact kf HKx.out | exact kf HKx.out.drew) k6); have HL6 := Lib.hid (show Keeps (fun k => FI k ∨ k = r) (w.alloc (.cells #[.int .i32 b.x0, .int .i32 b.y0, .int .i32 b.x1, .int .i32 b.y1] 39)) w6 from HK6.out.mono (fun _ _ h => .inl h)); clear k6 hx))
  go_wp2
  go_region_held3 (fun W => ((∀ i : Nat, W.cell? ⟨B, i, none⟩ = ([Value.iface 64 (.pointer (some ⟨I, 0, none⟩)), .map (some r)] : List Value)[i]?) ∧ ∀ i : Nat, W.cell? ⟨w.heap.size, i, none⟩ = ([.int .i32 b.x0, .int .i32 b.y0, .int .i32 b.x1, .int .i32 b.y1] : List Value)[i]?)) (first | with_reducible assumption | exact HSN.out _ (by first | exact HL7.out | exact HL7.out.drew | exact HL6.out | exact HL6.out.drew)) (first
   | (go_at_call 74; (with_reducible refine (HP.out _ (by first | exact HK6.out | exact HK6.out.drew)).mono ?_); rintro e w7 ⟨rfl, hm7, k7⟩; have HM7 := Lib.hid (And.intro hm7 k7); have HL7 := Lib.hid (show Keeps (fun k => FI k ∨ k = r) (w.alloc (.cells #[.int .i32 b.x0, .int .i32 b.y0, .int .i32 b.x1, .int .i32 b.y1] 39)) w7 from Keeps.trans (by first | exact HL6.out | exact HL6.out.drew) (k7.mono (fun _ _ h => .inr h))); clear hm7 k7))
  exact Zw
theorem sieve_del_no_G (hB : Blk w B 69 [Value.iface 64 (.pointer (some ⟨I, 0, none⟩)), .map (some r)]) (hM : MapL kid w r (kvB L)) (id : Nat) (hno : hasB L id = false) :
 Calls Tryz.prog 148 #[.pointer (some ⟨B, 0, none⟩), .int .u32 (id : Int)] w (SDid r (141, L) w) := by
 have hSc : ScB w B 1 r := ⟨_, _, hB, rfl⟩
 have HD := Lib.hid (show Calls _ _ _ _ (SDid r (141, L) w) from (show delF L id = (141, L) by simp [delF, hno]) ▸ sdel_t hSc hM id)
 have cB := hB.cell
 clear hB hM hno hSc
 go_enter Tryz.func148, Tryz.ntmps148
 go_wp2_with (go_at_call 72; (with_reducible refine HD.out.mono ?_); rintro e w5 ⟨rfl, hm5, k5⟩)
 go_ret
 exact ⟨rfl, hm5, k5⟩
theorem sieve_del_yes_G (hB : Blk w B 69 [Value.iface 64 (.pointer (some ⟨I, 0, none⟩)), .map (some r)]) (hM : MapL kid w r (kvB L)) (id : Nat) (hyes : hasB L id = true) (FI : Nat → Prop) (X : World → World → Prop)
 (hin : ∀ W, Keeps (fun k => k = r) w W → Calls Tryz.prog 119 #[.pointer (some ⟨I, 0, none⟩), .int .u32 (id : Int)] W fun e w' => e = .returned (.int .i64 0) ∧ Keeps FI W w' ∧ X W w') :
 Calls Tryz.prog 148 #[.pointer (some ⟨B, 0, none⟩), .int .u32 (id : Int)] w (fun e w' => e = .returned (.int .i64 0) ∧ ∃ W1, MapL kid W1 r (kvB (delB id L)) ∧ Keeps (fun k => k = r) w W1 ∧ Keeps FI W1 w' ∧ X W1 w') := by
 have hSc : ScB w B 1 r := ⟨_, _, hB, rfl⟩
 have HD := Lib.hid (show Calls _ _ _ _ (SDid r (0, delB id L) w) from (show delF L id = (0, delB id L) by simp [delF, hyes]) ▸ sdel_t hSc hM id)
 have HB := Lib.hid (And.intro hB (hM.ne hB))
 have HI := Lib.hid hin
 have hm := mG_Del (some ⟨I, 0, none⟩)
 clear hB hM hyes hSc hin
 go_enter Tryz.func148, Tryz.ntmps148
 go_wp2_with (first
  | (go_at_call 72; (with_reducible refine HD.out.mono ?_); rintro e w5 ⟨rfl, hm5, k5⟩; have c5 := (HB.out.1.keeps k5 HB.out.2).cell; have H5 := Lib.hid (And.intro hm5 k5); clear hm5 k5)
  | (go_at_call 119; (with_reducible refine (HI.out _ H5.out.2).mono ?_); rintro e w6 ⟨rfl, k6, hx⟩))
 go_ret
 exact ⟨rfl, _, H5.out.1, H5.out.2, k6, hx⟩
theorem sieve_at_T (hB : Blk w B 69 [Value.iface 70 (.pointer (some ⟨I, 0, none⟩)), .map (some r)]) (hL : OkL L) (px py : Int)
 (hin : ∀ W, Keeps (fun _ => False) w W → Calls Tryz.prog 150 #[.pointer (some ⟨I, 0, none⟩), .agg #[.int .i32 px, .int .i32 py]] W fun e w' => ∃ tv, e = .returned tv ∧ Keeps (fun _ => False) W w' ∧ Cand w' B 1 r L (coversP px py) tv) :
 Calls Tryz.prog 146 #[.pointer (some ⟨B, 0, none⟩), .agg #[.int .i32 px, .int .i32 py]] w (TellA L (coversP px py) w) := by
 have k1 : Keeps (fun _ => False) w (w.alloc (.cells #[.int .i32 px, .int .i32 py] 37)) := by (repeat (first | exact Keeps.refl _ _ | refine Keeps.alloc ?_ _ | refine Keeps.drew ?_))
 have HSN := Lib.hid (show ∀ W', Keeps (fun _ => False) (w.alloc (.cells #[.int .i32 px, .int .i32 py] 37)) W' → ((∀ i : Nat, W'.cell? ⟨B, i, none⟩ = ([Value.iface 70 (.pointer (some ⟨I, 0, none⟩)), .map (some r)] : List Value)[i]?) ∧ ∀ i : Nat, W'.cell? ⟨w.heap.size, i, none⟩ = ([.int .i32 px, .int .i32 py] : List Value)[i]?) from fun W' hk => ⟨(hB.keeps (k1.trans hk) (fun h => h)).cell, ((Blk.new w 37 [.int .i32 px, .int .i32 py]).keeps hk (fun h => h)).cell⟩)
 have HC := Lib.hid (fun W' (hk : Keeps (fun _ => False) (w.alloc (.cells #[.int .i32 px, .int .i32 py] 37)) W') => hin W' (k1.trans hk))
 have HT := Lib.hid (fun W' tv pv (h : Cand W' B 1 r L (coversP px py) tv) (hp : Pick W' (coversP px py) pv) => h.tell hp hL (fun _ _ h => h))
 have HK := Lib.hid k1
 have hm := mT_At (some ⟨I, 0, none⟩)
 clear hB hL k1 hin
 go_enter Tryz.func146, Tryz.ntmps146
 go_wp2
 go_region_held3 (fun W => ((∀ i : Nat, W.cell? ⟨B, i, none⟩ = ([Value.iface 70 (.pointer (some ⟨I, 0, none⟩)), .map (some r)] : List Value)[i]?) ∧ ∀ i : Nat, W.cell? ⟨w.heap.size, i, none⟩ = ([.int .i32 px, .int .i32 py] : List Value)[i]?)) (first | with_reducible assumption | exact HSN.out _ Z6) (first
  | (go_at_call 150; (with_reducible refine (HC.out _ Z6).mono ?_); rintro e w5 ⟨tv, rfl, k5, hc⟩; have HK5 := Lib.hid (show Keeps (fun _ => False) (w.alloc (.cells #[.int .i32 px, .int .i32 py] 37)) w5 from Keeps.trans Z4 k5); have HC5 := Lib.hid hc; clear k5 hc)
  | (go_at_call 77; (with_reducible refine (pick_covers _ _ _).mono ?_); rintro e w6 ⟨pv, rfl, k6, hp⟩; have HQ6 := Lib.hid (show Keeps (fun _ => False) w5 w6 from Keeps.trans Z4 k6); have HK6 := Lib.hid (HK5.out.trans HQ6.out); have HP6 := Lib.hid hp; clear k6 hp)
  | (go_at_call 75; (with_reducible refine (HT.out _ _ _ (HC5.out.kd HQ6.out) HP6.out).mono ?_); rintro e w7 ⟨VB, V, rfl, k7, hv, ha⟩; have HK7 := Lib.hid (HK6.out.trans k7); have HV := Lib.hid (And.intro hv ha); clear k7 hv ha))
 all_goals
  exact ZI
theorem sieve_cross_T (hB : Blk w B 69 [Value.iface 70 (.pointer (some ⟨I, 0, none⟩)), .map (some r)]) (hL : OkL L) (px py qx qy : Int)
 (hin : ∀ W, Keeps (fun _ => False) w W → Calls Tryz.prog 151 #[.pointer (some ⟨I, 0, none⟩), .agg #[.int .i32 px, .int .i32 py], .agg #[.int .i32 qx, .int .i32 qy]] W fun e w' => ∃ tv, e = .returned tv ∧ Keeps (fun _ => False) W w' ∧ Cand w' B 1 r L (tkC px py qx qy) tv) :
 Calls Tryz.prog 147 #[.pointer (some ⟨B, 0, none⟩), .agg #[.int .i32 px, .int .i32 py], .agg #[.int .i32 qx, .int .i32 qy]] w (TellA L (tkC px py qx qy) w) := by
 have k1 : Keeps (fun _ => False) w ((w.alloc (.cells #[.int .i32 px, .int .i32 py] 37)).alloc (.cells #[.int .i32 qx, .int .i32 qy] 37)) := by (repeat (first | exact Keeps.refl _ _ | refine Keeps.alloc ?_ _ | refine Keeps.drew ?_))
 have bq := Blk.new (w.alloc (.cells #[.int .i32 px, .int .i32 py] 37)) 37 [.int .i32 qx, .int .i32 qy]
 simp only [World.size_alloc] at bq
 have HSN := Lib.hid (show ∀ W', Keeps (fun _ => False) ((w.alloc (.cells #[.int .i32 px, .int .i32 py] 37)).alloc (.cells #[.int .i32 qx, .int .i32 qy] 37)) W' → ((∀ i : Nat, W'.cell? ⟨B, i, none⟩ = ([Value.iface 70 (.pointer (some ⟨I, 0, none⟩)), .map (some r)] : List Value)[i]?) ∧ (∀ i : Nat, W'.cell? ⟨w.heap.size, i, none⟩ = ([.int .i32 px, .int .i32 py] : List Value)[i]?) ∧ ∀ i : Nat, W'.cell? ⟨w.heap.size + 1, i, none⟩ = ([.int .i32 qx, .int .i32 qy] : List Value)[i]?) from fun W' hk => ⟨(hB.keeps (k1.trans hk) (fun h => h)).cell, (((Blk.new w 37 [.int .i32 px, .int .i32 py]).alloc _).keeps hk (fun h => h)).cell, (bq.keeps hk (fun h => h)).cell⟩)
 have HC := Lib.hid (fun W' (hk : Keeps (fun _ => False) ((w.alloc (.cells #[.int .i32 px, .int .i32 py] 37)).alloc (.cells #[.int .i32 qx, .int .i32 qy] 37)) W') => hin W' (k1.trans hk))
 have HT := Lib.hid (fun W' tv pv (h : Cand W' B 1 r L (tkC px py qx qy) tv) (hp : Pick W' (tkC px py qx qy) pv) => h.tell hp hL (fun _ _ h => h))
 have HK := Lib.hid k1
 have hm := mT_Crossing (some ⟨I, 0, none⟩)
 clear hB hL k1 hin bq
 go_enter Tryz.func147, Tryz.ntmps147
 go_wp2
 go_region_held3 (fun W => ((∀ i : Nat, W.cell? ⟨B, i, none⟩ = ([Value.iface 70 (.pointer (some ⟨I, 0, none⟩)), .map (some r)] : List Value)[i]?) ∧ (∀ i : Nat, W.cell? ⟨w.heap.size, i, none⟩ = ([.int .i32 px, .int .i32 py] : List Value)[i]?) ∧ ∀ i : Nat, W.cell? ⟨w.heap.size + 1, i, none⟩ = ([.int .i32 qx, .int .i32 qy] : List Value)[i]?)) (first | with_reducible assumption | exact HSN.out _ Z6) (first
  | (go_at_call 151; (with_reducible refine (HC.out _ Z6).mono ?_); rintro e w5 ⟨tv, rfl, k5, hc⟩; have HK5 := Lib.hid (show Keeps (fun _ => False) ((w.alloc (.cells #[.int .i32 px, .int .i32 py] 37)).alloc (.cells #[.int .i32 qx, .int .i32 qy] 37)) w5 from Keeps.trans Z4 k5); have HC5 := Lib.hid hc; clear k5 hc)
  | (go_at_call 78; (with_reducible refine (pick_meets _ _ _ _ _).mono ?_); rintro e w6 ⟨pv, rfl, k6, hp⟩; have HQ6 := Lib.hid (show Keeps (fun _ => False) w5 w6 from Keeps.trans Z4 k6); have HK6 := Lib.hid (HK5.out.trans HQ6.out); have HP6 := Lib.hid hp; clear k6 hp)
  | (go_at_call 75; (with_reducible refine (HT.out _ _ _ (HC5.out.kd HQ6.out) HP6.out).mono ?_); rintro e w7 ⟨VB, V, rfl, k7, hv, ha⟩; have HK7 := Lib.hid (HK6.out.trans k7); have HV := Lib.hid (And.intro hv ha); clear k7 hv ha))
 all_goals
  exact ZI
theorem sieve_put_no_T (hB : Blk w B 69 [Value.iface 70 (.pointer (some ⟨I, 0, none⟩)), .map (some r)]) (hM : MapL kid w r (kvB L)) (id : Nat) (b : Bx) (hno : (putF L id b).1 ≠ 0) :
 Calls Tryz.prog 149 #[.pointer (some ⟨B, 0, none⟩), .int .u32 (id : Int), .agg #[.int .i32 b.x0, .int .i32 b.y0, .int .i32 b.x1, .int .i32 b.y1]] w (Gave (.int .i64 (putF L id b).1) w) := by
 have k1 : Keeps (fun _ => False) w (w.alloc (.cells #[.int .i32 b.x0, .int .i32 b.y0, .int .i32 b.x1, .int .i32 b.y1] 39)) := by (repeat (first | exact Keeps.refl _ _ | refine Keeps.alloc ?_ _ | refine Keeps.drew ?_))
 have HSN := Lib.hid (show ∀ W', Keeps (fun _ => False) (w.alloc (.cells #[.int .i32 b.x0, .int .i32 b.y0, .int .i32 b.x1, .int .i32 b.y1] 39)) W' → ((∀ i : Nat, W'.cell? ⟨B, i, none⟩ = ([Value.iface 70 (.pointer (some ⟨I, 0, none⟩)), .map (some r)] : List Value)[i]?) ∧ ∀ i : Nat, W'.cell? ⟨w.heap.size, i, none⟩ = ([.int .i32 b.x0, .int .i32 b.y0, .int .i32 b.x1, .int .i32 b.y1] : List Value)[i]?) from fun W' hk => ⟨(hB.keeps (k1.trans hk) (fun h => h)).cell, ((Blk.new w 39 [.int .i32 b.x0, .int .i32 b.y0, .int .i32 b.x1, .int .i32 b.y1]).keeps hk (fun h => h)).cell⟩)
 have hSc : ScB w B 1 r := ⟨_, _, hB, rfl⟩
 have HZ := Lib.hid (fun W (k : Keeps (fun _ => False) (w.alloc (.cells #[.int .i32 b.x0, .int .i32 b.y0, .int .i32 b.x1, .int .i32 b.y1] 39)) W) => wrong_t (hSc.kd (k1.trans k)) (hM.keeps (k1.trans k) (fun h => h)) id b)
 have HK := Lib.hid k1
 obtain ⟨v, hv⟩ := ZE ((putF L id b).1)
 rw [← hv] at hno HZ ⊢
 clear hB hM k1 hSc hv
 go_enter Tryz.func149, Tryz.ntmps149
 go_wp2
 go_region_held3 (fun W => ((∀ i : Nat, W.cell? ⟨B, i, none⟩ = ([Value.iface 70 (.pointer (some ⟨I, 0, none⟩)), .map (some r)] : List Value)[i]?) ∧ ∀ i : Nat, W.cell? ⟨w.heap.size, i, none⟩ = ([.int .i32 b.x0, .int .i32 b.y0, .int .i32 b.x1, .int .i32 b.y1] : List Value)[i]?)) (first | with_reducible assumption | exact HSN.out _ Z6) (first
  | (go_at_call 79; (with_reducible refine (HZ.out _ Z6).mono ?_); rintro e w5 ⟨rfl, k5⟩; have HK5 := Lib.hid (show Keeps (fun _ => False) (w.alloc (.cells #[.int .i32 b.x0, .int .i32 b.y0, .int .i32 b.x1, .int .i32 b.y1] 39)) w5 from Keeps.trans Z4 k5); clear k5))
 all_goals
  exact Zg
theorem sieve_put_yes_T (hB : Blk w B 69 [Value.iface 70 (.pointer (some ⟨I, 0, none⟩)), .map (some r)]) (hM : MapL kid w r (kvB L)) (id : Nat) (b : Bx) (hyes : (putF L id b).1 = 0) (FI : Nat → Prop) (X : World → World → Prop) (hFl : ∀ k, FI k → k < w.heap.size) (hFB : ¬ FI B) (hFr : ¬ FI r)
 (hin : ∀ W, Keeps (fun _ => False) w W → Calls Tryz.prog 155 #[.pointer (some ⟨I, 0, none⟩), .int .u32 (id : Int), .agg #[.int .i32 b.x0, .int .i32 b.y0, .int .i32 b.x1, .int .i32 b.y1]] W fun e w' => e = .returned (.int .i64 0) ∧ Keeps FI W w' ∧ X W w') :
 Calls Tryz.prog 149 #[.pointer (some ⟨B, 0, none⟩), .int .u32 (id : Int), .agg #[.int .i32 b.x0, .int .i32 b.y0, .int .i32 b.x1, .int .i32 b.y1]] w (fun e w' => e = .returned (.int .i64 0) ∧ ∃ W1 W2, Keeps (fun _ => False) w W1 ∧ Keeps FI W1 W2 ∧ X W1 W2 ∧ Keeps (fun k => k = r) W2 w' ∧ MapL kid w' r (kvB (L ++ [(id, b)]))) := by
 have e2 : (putF L id b).2 = L ++ [(id, b)] := by
  exact Zp
 have k1 : Keeps (fun _ => False) w (w.alloc (.cells #[.int .i32 b.x0, .int .i32 b.y0, .int .i32 b.x1, .int .i32 b.y1] 39)) := by (repeat (first | exact Keeps.refl _ _ | refine Keeps.alloc ?_ _ | refine Keeps.drew ?_))
 have hx : ¬ FI w.heap.size := fun h => by have := hFl _ h; omega
 have hBr := hM.ne hB
 have hrl := hM.lt
 have HSN := Lib.hid (show ∀ W', Keeps (fun k => FI k ∨ k = r) (w.alloc (.cells #[.int .i32 b.x0, .int .i32 b.y0, .int .i32 b.x1, .int .i32 b.y1] 39)) W' → ((∀ i : Nat, W'.cell? ⟨B, i, none⟩ = ([Value.iface 70 (.pointer (some ⟨I, 0, none⟩)), .map (some r)] : List Value)[i]?) ∧ ∀ i : Nat, W'.cell? ⟨w.heap.size, i, none⟩ = ([.int .i32 b.x0, .int .i32 b.y0, .int .i32 b.x1, .int .i32 b.y1] : List Value)[i]?) from fun W' hk => ⟨((hB.keeps k1 (fun h => h)).keeps hk (fun h => h.elim hFB hBr)).cell, ((Blk.new w 39 [.int .i32 b.x0, .int .i32 b.y0, .int .i32 b.x1, .int .i32 b.y1]).keeps hk (fun h => h.elim hx (fun e => Z8))).cell⟩)
 have hSc : ScB w B 1 r := ⟨_, _, hB, rfl⟩
 have HZ := Lib.hid (fun W (k : Keeps (fun _ => False) (w.alloc (.cells #[.int .i32 b.x0, .int .i32 b.y0, .int .i32 b.x1, .int .i32 b.y1] 39)) W) => hyes ▸ wrong_t (hSc.kd (k1.trans k)) (hM.keeps (k1.trans k) (fun h => h)) id b)
 have HI := Lib.hid (fun W (k : Keeps (fun _ => False) (w.alloc (.cells #[.int .i32 b.x0, .int .i32 b.y0, .int .i32 b.x1, .int .i32 b.y1] 39)) W) => hin W (k1.trans k))
 have HP := Lib.hid (fun W (k : Keeps FI (w.alloc (.cells #[.int .i32 b.x0, .int .i32 b.y0, .int .i32 b.x1, .int .i32 b.y1] 39)) W) => sput_t ((hSc.kd k1).keeps k hFB) ((hM.keeps k1 (fun h => h)).keeps k hFr) id b)
 have HK := Lib.hid (And.intro k1 (And.intro e2 hyes))
 have hm := mT_Put (some ⟨I, 0, none⟩)
 clear hB hM k1 hSc e2 hyes hin hFl hFB hFr hx hBr hrl
 go_enter Tryz.func149, Tryz.ntmps149
 go_wp2
 go_region_held3 (fun W => ((∀ i : Nat, W.cell? ⟨B, i, none⟩ = ([Value.iface 70 (.pointer (some ⟨I, 0, none⟩)), .map (some r)] : List Value)[i]?) ∧ ∀ i : Nat, W.cell? ⟨w.heap.size, i, none⟩ = ([.int .i32 b.x0, .int .i32 b.y0, .int .i32 b.x1, .int .i32 b.y1] : List Value)[i]?)) (first | with_reducible assumption | exact HSN.out _ ZAa) (first
  | (go_at_call 79; (with_reducible refine (HZ.out _ Z6).mono ?_); rintro e w5 ⟨rfl, k5⟩; have HK5 := Lib.hid (show Keeps (fun _ => False) (w.alloc (.cells #[.int .i32 b.x0, .int .i32 b.y0, .int .i32 b.x1, .int .i32 b.y1] 39)) w5 from Keeps.trans Z4 k5); clear k5))
 all_goals
  go_wp2
  refine (show ∀ Wx, Keeps (fun _ => False) (w.alloc (.cells #[.int .i32 b.x0, .int .i32 b.y0, .int .i32 b.x1, .int .i32 b.y1] 39)) Wx → Code.wp _ _ _ _ Wx from ?_) _ Z6
  intro Wx kx
  have HKx := Lib.hid kx
  clear kx
  go_region_held3 (fun W => ((∀ i : Nat, W.cell? ⟨B, i, none⟩ = ([Value.iface 70 (.pointer (some ⟨I, 0, none⟩)), .map (some r)] : List Value)[i]?) ∧ ∀ i : Nat, W.cell? ⟨w.heap.size, i, none⟩ = ([.int .i32 b.x0, .int .i32 b.y0, .int .i32 b.x1, .int .i32 b.y1] : List Value)[i]?)) (first | with_reducible assumption | exact HSN.out _ (by first | exact HL6.out | exact HL6.out.drew | exact kf HKx.out | exact kf HKx.out.drew)) (first
   | (go_at_call 155; (with_reducible refine (HI.out _ (by first | exact HKx.out | exact HKx.out.drew)).mono ?_); rintro e w6 ⟨rfl, k6, hx⟩; have HX6 := Lib.hid (And.intro k6 hx); have HK6 := Lib.hid (show Keeps FI (w.alloc (.cells #[.int .i32 b.x0, .int .i32 b.y0, .int .i32 b.x1, .int .i32 b.y1] 39)) w6 from Keeps.trans (by first | exact kf HKx.out | exact kf HKx.out.drew) k6); have HL6 := Lib.hid (show Keeps (fun k => FI k ∨ k = r) (w.alloc (.cells #[.int .i32 b.x0, .int .i32 b.y0, .int .i32 b.x1, .int .i32 b.y1] 39)) w6 from HK6.out.mono (fun _ _ h => .inl h)); clear k6 hx))
  go_wp2
  go_region_held3 (fun W => ((∀ i : Nat, W.cell? ⟨B, i, none⟩ = ([Value.iface 70 (.pointer (some ⟨I, 0, none⟩)), .map (some r)] : List Value)[i]?) ∧ ∀ i : Nat, W.cell? ⟨w.heap.size, i, none⟩ = ([.int .i32 b.x0, .int .i32 b.y0, .int .i32 b.x1, .int .i32 b.y1] : List Value)[i]?)) (first | with_reducible assumption | exact HSN.out _ (by first | exact HL7.out | exact HL7.out.drew | exact HL6.out | exact HL6.out.drew)) (first
   | (go_at_call 74; (with_reducible refine (HP.out _ (by first | exact HK6.out | exact HK6.out.drew)).mono ?_); rintro e w7 ⟨rfl, hm7, k7⟩; have HM7 := Lib.hid (And.intro hm7 k7); have HL7 := Lib.hid (show Keeps (fun k => FI k ∨ k = r) (w.alloc (.cells #[.int .i32 b.x0, .int .i32 b.y0, .int .i32 b.x1, .int .i32 b.y1] 39)) w7 from Keeps.trans (by first | exact HL6.out | exact HL6.out.drew) (k7.mono (fun _ _ h => .inr h))); clear hm7 k7))
  exact Zw
theorem sieve_del_no_T (hB : Blk w B 69 [Value.iface 70 (.pointer (some ⟨I, 0, none⟩)), .map (some r)]) (hM : MapL kid w r (kvB L)) (id : Nat) (hno : hasB L id = false) :
 Calls Tryz.prog 148 #[.pointer (some ⟨B, 0, none⟩), .int .u32 (id : Int)] w (SDid r (141, L) w) := by
 have hSc : ScB w B 1 r := ⟨_, _, hB, rfl⟩
 have HD := Lib.hid (show Calls _ _ _ _ (SDid r (141, L) w) from (show delF L id = (141, L) by simp [delF, hno]) ▸ sdel_t hSc hM id)
 have cB := hB.cell
 clear hB hM hno hSc
 go_enter Tryz.func148, Tryz.ntmps148
 go_wp2_with (go_at_call 72; (with_reducible refine HD.out.mono ?_); rintro e w5 ⟨rfl, hm5, k5⟩)
 go_ret
 exact ⟨rfl, hm5, k5⟩
theorem sieve_del_yes_T (hB : Blk w B 69 [Value.iface 70 (.pointer (some ⟨I, 0, none⟩)), .map (some r)]) (hM : MapL kid w r (kvB L)) (id : Nat) (hyes : hasB L id = true) (FI : Nat → Prop) (X : World → World → Prop)
 (hin : ∀ W, Keeps (fun k => k = r) w W → Calls Tryz.prog 152 #[.pointer (some ⟨I, 0, none⟩), .int .u32 (id : Int)] W fun e w' => e = .returned (.int .i64 0) ∧ Keeps FI W w' ∧ X W w') :
 Calls Tryz.prog 148 #[.pointer (some ⟨B, 0, none⟩), .int .u32 (id : Int)] w (fun e w' => e = .returned (.int .i64 0) ∧ ∃ W1, MapL kid W1 r (kvB (delB id L)) ∧ Keeps (fun k => k = r) w W1 ∧ Keeps FI W1 w' ∧ X W1 w') := by
 have hSc : ScB w B 1 r := ⟨_, _, hB, rfl⟩
 have HD := Lib.hid (show Calls _ _ _ _ (SDid r (0, delB id L) w) from (show delF L id = (0, delB id L) by simp [delF, hyes]) ▸ sdel_t hSc hM id)
 have HB := Lib.hid (And.intro hB (hM.ne hB))
 have HI := Lib.hid hin
 have hm := mT_Del (some ⟨I, 0, none⟩)
 clear hB hM hyes hSc hin
 go_enter Tryz.func148, Tryz.ntmps148
 go_wp2_with (first
  | (go_at_call 72; (with_reducible refine HD.out.mono ?_); rintro e w5 ⟨rfl, hm5, k5⟩; have c5 := (HB.out.1.keeps k5 HB.out.2).cell; have H5 := Lib.hid (And.intro hm5 k5); clear hm5 k5)
  | (go_at_call 152; (with_reducible refine (HI.out _ H5.out.2).mono ?_); rintro e w6 ⟨rfl, k6, hx⟩))
 go_ret
 exact ⟨rfl, _, H5.out.1, H5.out.2, k6, hx⟩
end
end Fi
end Go.Proofs.YtdbpfbokfmpgcaaGreat
