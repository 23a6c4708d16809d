/-
  RlB: what stands at a text's head: digits (the library's TrimLeft at the ten digits), and the one number that 'lives' reads.
-/
import Derived.Test.YtdhelpbhbhihaaaGreatDoorRlA
import Derived.Shelf.Lay
import Derived.Shelf.Strings.SlTrimAscii
import Derived.Shelf.Small.Wraps
import Derived.Shelf.Strings.Prefix
namespace Go.Proofs
open Go.Shelf
shelf_lay Lays.n161 Nm 161 at Tryz as Tryz.lays161
shelf_lay Lays.n101 Nm 101 at Tryz as Tryz.lays101
shelf_lay Lays.n103 Nm 103 at Tryz as Tryz.lays103
end Go.Proofs
namespace Go.Proofs.YtdhelpbhbhihaaaGreatDoor
open Go.RowKit Go.Shelf
set_option linter.unusedVariables false
set_option linter.unusedSimpArgs false
attribute [local go_sem] Oper.semAt_some
namespace Rl
open Mem
def digs : List UInt8 := [48, 49, 50, 51, 52, 53, 54, 55, 56, 57]
theorem tl_t (s : ByteArray) (w : World) : Calls Tryz.prog 48 #[.string s, .string ⟨#[48, 49, 50, 51, 52, 53, 54, 55, 56, 57]⟩] w fun e w' => e = .returned (.string ⟨(Lib.trimLeftS s.data.toList digs).toArray⟩) ∧ Below w.heap.size w w' :=
  Any.strings_TrimLeft_laid Tryz.lays161 (by kernel_rfl) s ⟨#[48, 49, 50, 51, 52, 53, 54, 55, 56, 57]⟩ w (by decide) (ascii_of_all (by decide))
theorem tp_t (s p : ByteArray) (w : World) : Calls Tryz.prog 81 #[.string s, .string p] w fun e w' => e = .returned (.string ⟨(Lib.trimPrefix s.data.toList p.data.toList).toArray⟩) ∧ w' = w :=
  Any.strings_TrimPrefix Tryz.lays101 s p w
theorem cp_t (s p : ByteArray) (w : World) : Calls Tryz.prog 45 #[.string s, .string p] w fun e w' => e = .returned (.tuple #[.string ⟨(Lib.trimPrefix s.data.toList p.data.toList).toArray⟩, .bool (Lib.hasPrefix s.data.toList p.data.toList)]) ∧ w' = w :=
  Any.strings_CutPrefix Tryz.lays103 s p w
theorem digits_at (s r : ByteArray) (b : Bool) (w : World) (hr : (⟨(Lib.trimLeftS s.data.toList digs).toArray⟩ : ByteArray) = r) (hb : decide (r.size < s.size) = b) : Calls Tryz.prog 47 #[.string s] w fun e w' => e = .returned (.tuple #[.string r, .bool b]) ∧ Below w.heap.size w w' := by
  have hc := tl_t s w
  rw [hr] at hc
  go_enter Tryz.func47, Tryz.ntmps47
  go_wp2_with (go_at_call 48; refine hc.mono ?_; rintro e w' ⟨rfl, hB⟩)
  refine bodyPost_ret (results_tmp2 rfl _ _ _) rfl ⟨?_, hB⟩
  subst hb
  rfl
set_option maxRecDepth 20000 in
theorem number_at (w : World) : Calls Tryz.prog 56 #[.string ⟨#[45, 49, 46, 53]⟩] w fun e w' => e = .returned (.bool true) ∧ Below w.heap.size w w' := by
  have c1 := fun w => tp_t ⟨#[45, 49, 46, 53]⟩ ⟨#[45]⟩ w
  have c2 := fun w => digits_at ⟨#[49, 46, 53]⟩ ⟨#[46, 53]⟩ true w (by decide) (by decide)
  have c3 := fun w => cp_t ⟨#[46, 53]⟩ ⟨#[46]⟩ w
  have c4 := fun w => digits_at ⟨#[53]⟩ ⟨#[]⟩ true w (by decide) (by decide)
  have c5 := fun w => cp_t ⟨#[]⟩ ⟨#[101]⟩ w
  have e1 : (⟨(Lib.trimPrefix (⟨#[45, 49, 46, 53]⟩ : ByteArray).data.toList (⟨#[45]⟩ : ByteArray).data.toList).toArray⟩ : ByteArray) = ⟨#[49, 46, 53]⟩ := by decide
  have e3 : (⟨(Lib.trimPrefix (⟨#[46, 53]⟩ : ByteArray).data.toList (⟨#[46]⟩ : ByteArray).data.toList).toArray⟩ : ByteArray) = ⟨#[53]⟩ := by decide
  have e4 : Lib.hasPrefix (⟨#[46, 53]⟩ : ByteArray).data.toList (⟨#[46]⟩ : ByteArray).data.toList = true := by decide
  have e5 : (⟨(Lib.trimPrefix (⟨#[]⟩ : ByteArray).data.toList (⟨#[101]⟩ : ByteArray).data.toList).toArray⟩ : ByteArray) = ⟨#[]⟩ := by decide
  have e6 : Lib.hasPrefix (⟨#[]⟩ : ByteArray).data.toList (⟨#[101]⟩ : ByteArray).data.toList = false := by decide
  rw [e1] at c1
  rw [e3, e4] at c3
  rw [e5, e6] at c5
  clear e1 e3 e4 e5 e6
  go_enter Tryz.func56, Tryz.ntmps56
  go_wp2_with (first
    | (go_at_call 81; with_reducible refine (c1 _).mono ?_; rintro e w' ⟨rfl, rfl⟩)
    | (go_at_call 47; with_reducible refine (c2 _).mono ?_; rintro e w' ⟨rfl, hB⟩)
    | (go_at_call 47; with_reducible refine (c4 _).mono ?_; rintro e w' ⟨rfl, hB2⟩)
    | (go_at_call 45; with_reducible refine (c3 _).mono ?_; rintro e w' ⟨rfl, rfl⟩)
    | (go_at_call 45; with_reducible refine (c5 _).mono ?_; rintro e w' ⟨rfl, rfl⟩))
  go_ret
  exact ⟨rfl, hB.trans (hB2.mono hB.size)⟩
end Rl
end Go.Proofs.YtdhelpbhbhihaaaGreatDoor
