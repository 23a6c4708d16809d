/-
MbA: packets: what they are in memory; are two alike; which epoch is ahead.
-/
import Derived.Test.YtdaindihobfokaaGreatDoorZaaMbPMem
import Derived.Laws.Externs
namespace Go.Proofs.YtdaindihobfokaaGreatDoor
open Go.RowKit
set_option linter.unusedVariables false
set_option linter.unusedSimpArgs false
attribute [local go_sem] Oper.semAt_some
namespace Mb
open Mem
/-- a packet -/
structure Pk where
  slot : Int
  ep : Nat
  num : Int
  kd : Int
  ob : Int
  fe : Int
  nu : Int
  x : Int
  y : Int
  ck : Int
  sp : Nat
def pkc (p : Pk) : List Value := [.int .i64 p.slot, .int .u32 (p.ep : Int), .int .u64 p.num, .int .u8 p.kd, .int .u32 p.ob, .int .u32 p.fe, .int .u32 p.nu, .int .i32 p.x, .int .i32 p.y, .int .u32 p.ck, .float .f64 p.sp]
theorem pkc_len (p : Pk) : (pkc p).length = 11 := rfl
/-- the whole numbers of two packets are the same -/
def sameI (p q : Pk) : Bool := decide (p.slot = q.slot) && (decide ((p.ep : Int) = (q.ep : Int)) && (decide (p.num = q.num) && (decide (p.kd = q.kd) && (decide (p.ob = q.ob) && (decide (p.fe = q.fe) && (decide (p.nu = q.nu) && (decide (p.x = q.x) && (decide (p.y = q.y) && decide (p.ck = q.ck)))))))))
def ord (x : Nat) : Option Ordering := FloatKind.f64.format.order x x
def likeB (p q : Pk) : Bool := sameI p q && ((decide (ord p.sp ≠ some .eq) && decide (ord q.sp ≠ some .eq)) || decide (p.sp = q.sp))
set_option maxRecDepth 100000 in
set_option maxHeartbeats 2000000 in
theorem eq_pk (p q : Pk) (W : World) : (binOp .eql 35 (.agg #[.int .i64 p.slot, .int .u32 (p.ep : Int), .int .u64 p.num, .int .u8 p.kd, .int .u32 p.ob, .int .u32 p.fe, .int .u32 p.nu, .int .i32 p.x, .int .i32 p.y, .int .u32 p.ck, .float .f64 0]) (.agg #[.int .i64 q.slot, .int .u32 (q.ep : Int), .int .u64 q.num, .int .u8 q.kd, .int .u32 q.ob, .int .u32 q.fe, .int .u32 q.nu, .int .i32 q.x, .int .i32 q.y, .int .u32 q.ck, .float .f64 0])).run Tryz.prog W = .ok (.bool (sameI p q)) W := by
  unfold sameI
  go_simp
  have hf : (Op.equalIn 9998 31 (.float .f64 0) (.float .f64 0)).run Tryz.prog W = .ok true W := by kernel_rfl
  simp only [hf, Result.andThen_ok]
  repeat' (split <;> simp_all)
theorem ext_bits (b : Nat) (W : World) : (callFunc 17 #[.float .f64 b]).run Tryz.prog W = .ok (.value (.int .u64 b)) W := by
  rw [run_callFunc_extern Tryz.func17 (by kernel_rfl) (by kernel_rfl) (by kernel_rfl) (e := Extern.MathFloatBits.float64bits) (by kernel_rfl)]
  rfl
/-- which of two packets is ahead by its epoch -/
theorem beg1_t (p q : Pk) (hp : p.ep < 4294967296) (hq : q.ep < 4294967296) (w : World) : Calls Tryz.prog 10 #[.agg #[.int .i64 p.slot, .int .u32 (p.ep : Int), .int .u64 p.num, .int .u8 p.kd, .int .u32 p.ob, .int .u32 p.fe, .int .u32 p.nu, .int .i32 p.x, .int .i32 p.y, .int .u32 p.ck, .float .f64 p.sp], .agg #[.int .i64 q.slot, .int .u32 (q.ep : Int), .int .u64 q.num, .int .u8 q.kd, .int .u32 q.ob, .int .u32 q.fe, .int .u32 q.nu, .int .i32 q.x, .int .i32 q.y, .int .u32 q.ck, .float .f64 q.sp]] w fun e w' => e = .returned (.int .i64 ((p.ep : Int) - (q.ep : Int))) ∧ Keeps (fun _ => False) w w' := by
  have w1 : IntKind.i64.wrap (p.ep : Int) = p.ep := IntWalk.i64_in _ (by omega)
  have w2 : IntKind.i64.wrap (q.ep : Int) = q.ep := IntWalk.i64_in _ (by omega)
  have w3 : IntKind.i64.wrap ((p.ep : Int) - q.ep) = (p.ep : Int) - q.ep := IntWalk.i64_in _ (by omega)
  clear hp hq
  go_enter Tryz.func10, Tryz.ntmps10
  go_wp2
  go_ret
  exact ⟨rfl, by (repeat (first | exact Keeps.refl _ _ | refine Keeps.alloc ?_ _ | refine Keeps.drew ?_))⟩
end Mb
end Go.Proofs.YtdaindihobfokaaGreatDoor
