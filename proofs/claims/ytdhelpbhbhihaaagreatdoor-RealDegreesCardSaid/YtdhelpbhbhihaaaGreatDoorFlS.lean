/-
  FlS: floats of 64 bits in the walk: what an operation gives, whatever its operands; what is no number, as nothing.
-/
import Derived.Test.YtdhelpbhbhihaaaGreatDoorFlP
import Derived.Laws.FloatArith
import Derived.Laws.NewFold
import Derived.WalkLawsBesides
namespace Go.Proofs.YtdhelpbhbhihaaaGreatDoor
set_option linter.unusedVariables false
namespace Fl
open Ieee Rl
def fv (op : BinOp) (x y : Nat) (w : World) : Nat :=
  match floatBits op .f64 x y with
  | some r => r
  | none => Question.cut (.nanBits .f64 x y) (w.tape w.drawn (.nanBits .f64 x y))
def fw (op : BinOp) (x y : Nat) (w : World) : World := if (floatBits op .f64 x y).isSome then w else w.drew
theorem run_add {P : Program} (t : TypeId) (x y : Nat) (w : World) : (binOp .add t (.float .f64 x) (.float .f64 y)).run P w = .ok (.float .f64 (fv .add x y w)) (fw .add x y w) := by
  unfold fv fw
  cases h : floatBits .add .f64 x y with
  | some r => simp only [Option.isSome_some, if_true]; exact run_float_arith w .add t .f64 x y r h
  | none =>
    have h' : FloatKind.f64.format.add x y = none := h
    simp [binOp, Op.floatArith, h', Question.forced]
theorem run_sub {P : Program} (t : TypeId) (x y : Nat) (w : World) : (binOp .sub t (.float .f64 x) (.float .f64 y)).run P w = .ok (.float .f64 (fv .sub x y w)) (fw .sub x y w) := by
  unfold fv fw
  cases h : floatBits .sub .f64 x y with
  | some r => simp only [Option.isSome_some, if_true]; exact run_float_arith w .sub t .f64 x y r h
  | none =>
    have h' : FloatKind.f64.format.sub x y = none := h
    simp [binOp, Op.floatArith, h', Question.forced]
theorem run_quo {P : Program} (t : TypeId) (x y : Nat) (w : World) : (binOp .quo t (.float .f64 x) (.float .f64 y)).run P w = .ok (.float .f64 (fv .quo x y w)) (fw .quo x y w) := by
  unfold fv fw
  cases h : floatBits .quo .f64 x y with
  | some r => simp only [Option.isSome_some, if_true]; exact run_float_arith w .quo t .f64 x y r h
  | none =>
    have h' : FloatKind.f64.format.div x y = none := h
    simp [binOp, Op.floatArith, h', Question.forced]
/-- a word, if it is a number's -/
def cls (x : Nat) : Option Nat := if (K x).1 = 3 then none else some x
theorem K_nan (x : Nat) : (K x).1 = 3 ↔ (F.read x).isNaN = true := by
  unfold K
  cases h : F.read x with
  | nan s t => simp [key, Datum.isNaN]
  | infinity s => cases s <;> simp [key, Datum.isNaN]
  | number s m i => simp [key, Datum.isNaN]
theorem word_num (neg : Bool) {r : Nat} (h : r ≤ F.infRung) : (K (F.word neg r)).1 ≠ 3 := by
  by_cases h1 : r < F.infRung
  · rw [read_word neg h1]; simp
  · have : r = F.infRung := by omega
    subst this
    rw [inf_eq]
    intro hk
    have hn := (K_nan _).1 hk
    revert hn
    cases neg <;> simp only [Format.word, weight_eq] <;> decide
theorem write_num (d : Datum) (h : d.isNaN = false) : (K (F.write d)).1 ≠ 3 := by
  cases d with
  | nan s t => simp [Datum.isNaN] at h
  | infinity s => exact word_num s (Nat.le_refl _)
  | number s m i =>
    show (K (F.nearest s m i)).1 ≠ 3
    unfold Format.nearest
    split
    · exact word_num s (by omega)
    · exact word_num s (by omega)
theorem sum_num {a b d : Datum} (h : a.sum b = some d) : d.isNaN = false := by
  revert h
  cases a <;> cases b <;> simp only [Datum.sum] <;> intro h <;> first | (cases h; done) | (cases h; rfl) | skip
  split at h <;> cases h; rfl
theorem product_num {a b d : Datum} (h : a.product b = some d) : d.isNaN = false := by
  revert h
  cases a <;> cases b <;> simp only [Datum.product] <;> intro h <;> first | (cases h; done) | (cases h; rfl) | skip
  all_goals (split at h <;> cases h; rfl)
theorem quotient_num {n : Nat} {a b d : Datum} (h : a.quotient n b = some d) : d.isNaN = false := by
  revert h
  cases a <;> cases b <;> simp only [Datum.quotient] <;> intro h <;> first | (cases h; done) | (cases h; rfl) | skip
  all_goals (repeat' split at h) <;> cases h <;> rfl
theorem bits_num {op : BinOp} {x y r : Nat} (h : floatBits op .f64 x y = some r) : (K r).1 ≠ 3 := by
  cases op <;> simp only [floatBits] at h <;> first | (cases h; done) | skip
  · obtain ⟨d, hd, rfl⟩ := Option.map_eq_some_iff.1 h; exact write_num d (sum_num hd)
  · obtain ⟨d, hd, rfl⟩ := Option.map_eq_some_iff.1 h; exact write_num d (sum_num hd)
  · obtain ⟨d, hd, rfl⟩ := Option.map_eq_some_iff.1 h; exact write_num d (product_num hd)
  · obtain ⟨d, hd, rfl⟩ := Option.map_eq_some_iff.1 h; exact write_num d (quotient_num hd)
theorem cut_nan (x y t : Nat) : (K (Question.cut (.nanBits .f64 x y) t)).1 = 3 := by
  rw [K_nan]
  have h1 : Question.cut (.nanBits .f64 x y) t = (t % 2) * 2 ^ 63 + 0x7ff0000000000000 + 1 + (t / 2) % (2 ^ 52 - 1) := rfl
  rw [h1]
  have h2 : (t / 2) % (2 ^ 52 - 1) < 2 ^ 52 - 1 := Nat.mod_lt _ (by decide)
  have h3 : t % 2 < 2 := Nat.mod_lt _ (by decide)
  generalize (t / 2) % (2 ^ 52 - 1) = a at h2
  generalize t % 2 = b at h3
  have h4 : (2 : Nat) ^ 52 - 1 = 4503599627370495 := by decide
  have h5 : (2 : Nat) ^ 63 = 9223372036854775808 := by decide
  rw [h4] at h2
  rw [h5]
  unfold Format.read
  simp only [weight_eq, binade_eq, inf_eq]
  have e : (b * 9223372036854775808 + 9218868437227405312 + 1 + a) % 9223372036854775808 = 9218868437227405313 + a := by omega
  rw [e, if_neg (by omega), if_neg (by omega), if_neg (by omega)]
  rfl
theorem cls_fv (op : BinOp) (x y : Nat) (w : World) : cls (fv op x y w) = floatBits op .f64 x y := by
  unfold fv
  cases h : floatBits op .f64 x y with
  | some r => simp only [cls]; rw [if_neg (bits_num h)]
  | none => simp only [cls]; rw [if_pos (cut_nan x y _)]
theorem bits_nan {op : BinOp} {x y : Nat} (h : (K x).1 = 3 ∨ (K y).1 = 3) : floatBits op .f64 x y = none := by
  have hx : (F.read x).isNaN = true ∨ (F.read y).isNaN = true := h.imp (K_nan x).1 (K_nan y).1
  cases op <;> simp only [floatBits]
  all_goals
    simp only [Format.add, Format.sub, Format.mul, Format.div, Option.map_eq_none_iff]
    cases ha : FloatKind.f64.format.read x <;> cases hb : FloatKind.f64.format.read y <;> simp [Datum.sum, Datum.product, Datum.quotient, Datum.opposite] <;> simp [ha, hb, Datum.isNaN] at hx
/-- an operation on what may be no number -/
def opO (op : BinOp) (a b : Option Nat) : Option Nat := a.bind fun x => b.bind fun y => floatBits op .f64 x y
theorem bits_opO (op : BinOp) (x y : Nat) : floatBits op .f64 x y = opO op (cls x) (cls y) := by
  unfold opO cls
  by_cases hx : (K x).1 = 3
  · rw [if_pos hx, bits_nan (.inl hx)]; rfl
  · by_cases hy : (K y).1 = 3
    · rw [if_pos hy, if_neg hx, bits_nan (.inr hy)]; rfl
    · rw [if_neg hx, if_neg hy]; rfl
theorem cls_op (op : BinOp) (x y : Nat) (w : World) : cls (fv op x y w) = opO op (cls x) (cls y) := (cls_fv op x y w).trans (bits_opO op x y)
theorem fw_heap (op : BinOp) (x y : Nat) (w : World) : (fw op x y w).heap = w.heap := by unfold fw; split <;> rfl
end Fl
end Go.Proofs.YtdhelpbhbhihaaaGreatDoor
