/-
  DgD: the package's reading of millionths: the library's part.
-/
import Derived.Test.YtdhelpbhbhihaaaGreatDoorDgQ
import Derived.Test.YtdhelpbhbhihaaaGreatDoorDgA
import Derived.Test.YtdhelpbhbhihaaaGreatDoorRlB
import Derived.Shelf.Strings.Search1
import Derived.Shelf.Strconv.AtoiAll
namespace Go.Proofs
open Go.Shelf
shelf_lay Lays.n217 Nm 217 at Tryz as Tryz.lays217
shelf_lay LaysC.n172 Nm 172 at Tryz as Tryz.lays172
end Go.Proofs
namespace Go.Proofs.YtdhelpbhbhihaaaGreatDoor
open Go.RowKit Go.Shelf Go.Lib
set_option linter.unusedVariables false
set_option linter.unusedSimpArgs false
attribute [local go_sem] Oper.semAt_some
namespace Dg
open Mem
theorem atoi_t (s : ByteArray) (hs : s.size ≤ 1000) (v : Int) (h : atoiAll s.data.toList = .ok v) (w : World) : Calls Tryz.prog 49 #[.string s] w fun e w' => e = .returned (.tuple #[.int .i64 v, .nilIface]) ∧ (w' = w ∨ ∃ t, w' = bytesWorld w 5 t) :=
  Any.strconv_Atoi_ok Tryz.lays172 s (by omega) v h w
theorem ib_t (s : ByteArray) (w : World) : Calls Tryz.prog 108 #[.string s, .int .u8 46] w fun e w' => e = .returned (.int .i64 (indexByte s.data.toList 46)) ∧ w' = w :=
  Any.stringslite_IndexByte Tryz.lays217 s 46 w
theorem tl0_t (s : ByteArray) (w : World) : Calls Tryz.prog 48 #[.string s, .string ⟨#[48]⟩] w fun e w' => e = .returned (.string ⟨(trimLeftS s.data.toList [48]).toArray⟩) ∧ Below w.heap.size w w' :=
  Any.strings_TrimLeft_laid Tryz.lays161 (by kernel_rfl) s ⟨#[48]⟩ w (by decide) (ascii_of_all (by decide))
theorem pre_t (l : List UInt8) (w : World) : Calls Tryz.prog 45 #[tx l, .string ⟨#[45]⟩] w fun e w' => e = .returned (.tuple #[tx (body l), .bool (negOf l)]) ∧ w' = w := by
  refine (Rl.cp_t ⟨l.toArray⟩ ⟨#[45]⟩ w).mono ?_
  rintro e w' ⟨rfl, rfl⟩
  have h1 : hasPrefix l [45] = negOf l := by
    unfold hasPrefix negOf
    cases l with
    | nil => rfl
    | cons a t => 
      show (45 == a && List.isPrefixOf [] t) = _
      rw [show List.isPrefixOf [] t = true by cases t <;> rfl, Bool.and_true]
      simp only [List.head?_cons]
      by_cases ha : a = 45
      · subst ha; rfl
      · have e1 : ((45 : UInt8) == a) = false := beq_eq_false_iff_ne.2 (Ne.symm ha)
        have e2 : (some a == some (45 : UInt8)) = false := by rw [beq_eq_false_iff_ne]; intro e; exact ha (Option.some.inj e)
        rw [e1, e2]
  have h2 : trimPrefix l [45] = body l := by
    unfold trimPrefix body
    rw [h1]
    rfl
  refine ⟨?_, rfl⟩
  show Ending.returned (.tuple #[.string ⟨(trimPrefix l [45]).toArray⟩, .bool (hasPrefix l [45])]) = _
  rw [h1, h2]
theorem digs_isD (b : UInt8) : Rl.digs.contains b = isD b := by
  have h : ∀ k : Fin 256, Rl.digs.contains (UInt8.ofNat k.val) = isD (UInt8.ofNat k.val) := by decide +kernel
  have := h ⟨b.toNat, b.toNat_lt⟩
  simpa using this
theorem dig_t (l : List UInt8) (w : World) : Calls Tryz.prog 47 #[tx l] w fun e w' => e = .returned (.tuple #[tx (l.dropWhile isD), .bool (decide ((l.dropWhile isD).length < l.length))]) ∧ Below w.heap.size w w' := by
  have h : trimLeftS l Rl.digs = l.dropWhile isD := by
    unfold trimLeftS
    congr 1
    funext b
    exact digs_isD b
  exact Rl.digits_at ⟨l.toArray⟩ ⟨(l.dropWhile isD).toArray⟩ _ w (by show (⟨(trimLeftS l Rl.digs).toArray⟩ : ByteArray) = _; rw [h]) rfl
end Dg
end Go.Proofs.YtdhelpbhbhihaaaGreatDoor
