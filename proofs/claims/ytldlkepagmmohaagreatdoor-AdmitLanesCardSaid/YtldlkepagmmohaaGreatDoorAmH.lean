/-
  AmH: the book's answers, by kind.
-/
import Derived.Test.YtldlkepagmmohaaGreatDoorAmG
namespace Go.Proofs.YtldlkepagmmohaaGreatDoor
open Go.RowKit
set_option linter.unusedVariables false
set_option linter.unusedSimpArgs false
attribute [local go_sem] Oper.semAt_some
namespace Am
open Mem
theorem ckK (e : Bool) (k : Int) (W : World) : (Instr.checkKey e 10000 24 (.int .u8 k)).run Tryz.prog W = .ok () W := by kernel_rfl
theorem fkn0 (W : World) : (Instr.findKey 24 (.int .u8 1) []).run Tryz.prog W = .ok none W := by kernel_rfl
theorem fkn1 (ob : Nat) (W : World) : (Instr.findKey 24 (.int .u8 2) [⟨.int .u8 1, .func (.func 18) #[.pointer (some ⟨ob, 0, none⟩)] #[], 0⟩]).run Tryz.prog W = .ok none W := by kernel_rfl
theorem fkn2 (ob : Nat) (W : World) : (Instr.findKey 24 (.int .u8 3) [⟨.int .u8 1, .func (.func 18) #[.pointer (some ⟨ob, 0, none⟩)] #[], 0⟩, ⟨.int .u8 2, .func (.func 19) #[.pointer (some ⟨ob, 0, none⟩)] #[], 1⟩]).run Tryz.prog W = .ok none W := by kernel_rfl
theorem fkn3 (ob : Nat) (W : World) : (Instr.findKey 24 (.int .u8 4) [⟨.int .u8 1, .func (.func 18) #[.pointer (some ⟨ob, 0, none⟩)] #[], 0⟩, ⟨.int .u8 2, .func (.func 19) #[.pointer (some ⟨ob, 0, none⟩)] #[], 1⟩, ⟨.int .u8 3, .func (.func 20) #[.pointer (some ⟨ob, 0, none⟩)] #[], 2⟩]).run Tryz.prog W = .ok none W := by kernel_rfl
theorem fkn4 (ob : Nat) (W : World) : (Instr.findKey 24 (.int .u8 5) [⟨.int .u8 1, .func (.func 18) #[.pointer (some ⟨ob, 0, none⟩)] #[], 0⟩, ⟨.int .u8 2, .func (.func 19) #[.pointer (some ⟨ob, 0, none⟩)] #[], 1⟩, ⟨.int .u8 3, .func (.func 20) #[.pointer (some ⟨ob, 0, none⟩)] #[], 2⟩, ⟨.int .u8 4, .func (.func 21) #[.pointer (some ⟨ob, 0, none⟩)] #[], 3⟩]).run Tryz.prog W = .ok none W := by kernel_rfl
theorem fkn5 (ob : Nat) (W : World) : (Instr.findKey 24 (.int .u8 6) [⟨.int .u8 1, .func (.func 18) #[.pointer (some ⟨ob, 0, none⟩)] #[], 0⟩, ⟨.int .u8 2, .func (.func 19) #[.pointer (some ⟨ob, 0, none⟩)] #[], 1⟩, ⟨.int .u8 3, .func (.func 20) #[.pointer (some ⟨ob, 0, none⟩)] #[], 2⟩, ⟨.int .u8 4, .func (.func 21) #[.pointer (some ⟨ob, 0, none⟩)] #[], 3⟩, ⟨.int .u8 5, .func (.func 22) #[.pointer (some ⟨ob, 0, none⟩)] #[], 4⟩]).run Tryz.prog W = .ok none W := by kernel_rfl
theorem fk1of (ob : Nat) (W : World) : (Instr.findKey 24 (.int .u8 1) [⟨.int .u8 1, .func (.func 18) #[.pointer (some ⟨ob, 0, none⟩)] #[], 0⟩, ⟨.int .u8 2, .func (.func 19) #[.pointer (some ⟨ob, 0, none⟩)] #[], 1⟩, ⟨.int .u8 3, .func (.func 20) #[.pointer (some ⟨ob, 0, none⟩)] #[], 2⟩, ⟨.int .u8 4, .func (.func 21) #[.pointer (some ⟨ob, 0, none⟩)] #[], 3⟩, ⟨.int .u8 5, .func (.func 22) #[.pointer (some ⟨ob, 0, none⟩)] #[], 4⟩, ⟨.int .u8 6, .func (.func 23) #[.pointer (some ⟨ob, 0, none⟩)] #[], 5⟩]).run Tryz.prog W = .ok (some (0, .func (.func 18) #[.pointer (some ⟨ob, 0, none⟩)] #[])) W := by kernel_rfl
theorem ins0 {W : World} {r ob : Nat} (h : Mp W r #[] 0) : (Instr.mapUpdate 75 (.map (some r)) (.int .u8 1) (.func (.func 18) #[.pointer (some ⟨ob, 0, none⟩)] #[])).run Tryz.prog W = .ok () (setM W r #[⟨.int .u8 1, .func (.func 18) #[.pointer (some ⟨ob, 0, none⟩)] #[], 0⟩] 1) := by
  simp [Instr.mapUpdate, run_underlying Tryz.underlying75, MapKept.run_getObj_map h, MapKept.run_setObj_map _ h, ckK, fkn0, Result.andThen, setM]
theorem ins1 {W : World} {r ob : Nat} (h : Mp W r #[⟨.int .u8 1, .func (.func 18) #[.pointer (some ⟨ob, 0, none⟩)] #[], 0⟩] 1) : (Instr.mapUpdate 75 (.map (some r)) (.int .u8 2) (.func (.func 19) #[.pointer (some ⟨ob, 0, none⟩)] #[])).run Tryz.prog W = .ok () (setM W r #[⟨.int .u8 1, .func (.func 18) #[.pointer (some ⟨ob, 0, none⟩)] #[], 0⟩, ⟨.int .u8 2, .func (.func 19) #[.pointer (some ⟨ob, 0, none⟩)] #[], 1⟩] 2) := by
  simp [Instr.mapUpdate, run_underlying Tryz.underlying75, MapKept.run_getObj_map h, MapKept.run_setObj_map _ h, ckK, fkn1, Result.andThen, setM]
theorem ins2 {W : World} {r ob : Nat} (h : Mp W r #[⟨.int .u8 1, .func (.func 18) #[.pointer (some ⟨ob, 0, none⟩)] #[], 0⟩, ⟨.int .u8 2, .func (.func 19) #[.pointer (some ⟨ob, 0, none⟩)] #[], 1⟩] 2) : (Instr.mapUpdate 75 (.map (some r)) (.int .u8 3) (.func (.func 20) #[.pointer (some ⟨ob, 0, none⟩)] #[])).run Tryz.prog W = .ok () (setM W r #[⟨.int .u8 1, .func (.func 18) #[.pointer (some ⟨ob, 0, none⟩)] #[], 0⟩, ⟨.int .u8 2, .func (.func 19) #[.pointer (some ⟨ob, 0, none⟩)] #[], 1⟩, ⟨.int .u8 3, .func (.func 20) #[.pointer (some ⟨ob, 0, none⟩)] #[], 2⟩] 3) := by
  simp [Instr.mapUpdate, run_underlying Tryz.underlying75, MapKept.run_getObj_map h, MapKept.run_setObj_map _ h, ckK, fkn2, Result.andThen, setM]
theorem ins3 {W : World} {r ob : Nat} (h : Mp W r #[⟨.int .u8 1, .func (.func 18) #[.pointer (some ⟨ob, 0, none⟩)] #[], 0⟩, ⟨.int .u8 2, .func (.func 19) #[.pointer (some ⟨ob, 0, none⟩)] #[], 1⟩, ⟨.int .u8 3, .func (.func 20) #[.pointer (some ⟨ob, 0, none⟩)] #[], 2⟩] 3) : (Instr.mapUpdate 75 (.map (some r)) (.int .u8 4) (.func (.func 21) #[.pointer (some ⟨ob, 0, none⟩)] #[])).run Tryz.prog W = .ok () (setM W r #[⟨.int .u8 1, .func (.func 18) #[.pointer (some ⟨ob, 0, none⟩)] #[], 0⟩, ⟨.int .u8 2, .func (.func 19) #[.pointer (some ⟨ob, 0, none⟩)] #[], 1⟩, ⟨.int .u8 3, .func (.func 20) #[.pointer (some ⟨ob, 0, none⟩)] #[], 2⟩, ⟨.int .u8 4, .func (.func 21) #[.pointer (some ⟨ob, 0, none⟩)] #[], 3⟩] 4) := by
  simp [Instr.mapUpdate, run_underlying Tryz.underlying75, MapKept.run_getObj_map h, MapKept.run_setObj_map _ h, ckK, fkn3, Result.andThen, setM]
theorem ins4 {W : World} {r ob : Nat} (h : Mp W r #[⟨.int .u8 1, .func (.func 18) #[.pointer (some ⟨ob, 0, none⟩)] #[], 0⟩, ⟨.int .u8 2, .func (.func 19) #[.pointer (some ⟨ob, 0, none⟩)] #[], 1⟩, ⟨.int .u8 3, .func (.func 20) #[.pointer (some ⟨ob, 0, none⟩)] #[], 2⟩, ⟨.int .u8 4, .func (.func 21) #[.pointer (some ⟨ob, 0, none⟩)] #[], 3⟩] 4) : (Instr.mapUpdate 75 (.map (some r)) (.int .u8 5) (.func (.func 22) #[.pointer (some ⟨ob, 0, none⟩)] #[])).run Tryz.prog W = .ok () (setM W r #[⟨.int .u8 1, .func (.func 18) #[.pointer (some ⟨ob, 0, none⟩)] #[], 0⟩, ⟨.int .u8 2, .func (.func 19) #[.pointer (some ⟨ob, 0, none⟩)] #[], 1⟩, ⟨.int .u8 3, .func (.func 20) #[.pointer (some ⟨ob, 0, none⟩)] #[], 2⟩, ⟨.int .u8 4, .func (.func 21) #[.pointer (some ⟨ob, 0, none⟩)] #[], 3⟩, ⟨.int .u8 5, .func (.func 22) #[.pointer (some ⟨ob, 0, none⟩)] #[], 4⟩] 5) := by
  simp [Instr.mapUpdate, run_underlying Tryz.underlying75, MapKept.run_getObj_map h, MapKept.run_setObj_map _ h, ckK, fkn4, Result.andThen, setM]
theorem ins5 {W : World} {r ob : Nat} (h : Mp W r #[⟨.int .u8 1, .func (.func 18) #[.pointer (some ⟨ob, 0, none⟩)] #[], 0⟩, ⟨.int .u8 2, .func (.func 19) #[.pointer (some ⟨ob, 0, none⟩)] #[], 1⟩, ⟨.int .u8 3, .func (.func 20) #[.pointer (some ⟨ob, 0, none⟩)] #[], 2⟩, ⟨.int .u8 4, .func (.func 21) #[.pointer (some ⟨ob, 0, none⟩)] #[], 3⟩, ⟨.int .u8 5, .func (.func 22) #[.pointer (some ⟨ob, 0, none⟩)] #[], 4⟩] 5) : (Instr.mapUpdate 75 (.map (some r)) (.int .u8 6) (.func (.func 23) #[.pointer (some ⟨ob, 0, none⟩)] #[])).run Tryz.prog W = .ok () (setM W r #[⟨.int .u8 1, .func (.func 18) #[.pointer (some ⟨ob, 0, none⟩)] #[], 0⟩, ⟨.int .u8 2, .func (.func 19) #[.pointer (some ⟨ob, 0, none⟩)] #[], 1⟩, ⟨.int .u8 3, .func (.func 20) #[.pointer (some ⟨ob, 0, none⟩)] #[], 2⟩, ⟨.int .u8 4, .func (.func 21) #[.pointer (some ⟨ob, 0, none⟩)] #[], 3⟩, ⟨.int .u8 5, .func (.func 22) #[.pointer (some ⟨ob, 0, none⟩)] #[], 4⟩, ⟨.int .u8 6, .func (.func 23) #[.pointer (some ⟨ob, 0, none⟩)] #[], 5⟩] 6) := by
  simp [Instr.mapUpdate, run_underlying Tryz.underlying75, MapKept.run_getObj_map h, MapKept.run_setObj_map _ h, ckK, fkn5, Result.andThen, setM]
theorem lkK {W : World} {r ob : Nat} (h : Mp W r #[⟨.int .u8 1, .func (.func 18) #[.pointer (some ⟨ob, 0, none⟩)] #[], 0⟩, ⟨.int .u8 2, .func (.func 19) #[.pointer (some ⟨ob, 0, none⟩)] #[], 1⟩, ⟨.int .u8 3, .func (.func 20) #[.pointer (some ⟨ob, 0, none⟩)] #[], 2⟩, ⟨.int .u8 4, .func (.func 21) #[.pointer (some ⟨ob, 0, none⟩)] #[], 3⟩, ⟨.int .u8 5, .func (.func 22) #[.pointer (some ⟨ob, 0, none⟩)] #[], 4⟩, ⟨.int .u8 6, .func (.func 23) #[.pointer (some ⟨ob, 0, none⟩)] #[], 5⟩] 6) : (Instr.lookup 75 (.map (some r)) (.int .u8 1) false).run Tryz.prog W = .ok (.func (.func 18) #[.pointer (some ⟨ob, 0, none⟩)] #[]) W := by
  simp [Instr.lookup, run_underlying Tryz.underlying75, MapKept.run_getObj_map h, ckK, fk1of, Result.andThen]
abbrev ents (ob : Nat) : Array MapEntry := #[⟨.int .u8 1, .func (.func 18) #[.pointer (some ⟨ob, 0, none⟩)] #[], 0⟩, ⟨.int .u8 2, .func (.func 19) #[.pointer (some ⟨ob, 0, none⟩)] #[], 1⟩, ⟨.int .u8 3, .func (.func 20) #[.pointer (some ⟨ob, 0, none⟩)] #[], 2⟩, ⟨.int .u8 4, .func (.func 21) #[.pointer (some ⟨ob, 0, none⟩)] #[], 3⟩, ⟨.int .u8 5, .func (.func 22) #[.pointer (some ⟨ob, 0, none⟩)] #[], 4⟩, ⟨.int .u8 6, .func (.func 23) #[.pointer (some ⟨ob, 0, none⟩)] #[], 5⟩]
theorem live_t (B m1 m2 tb lb : Nat) (ep : Int) (w : World) (h : Blk w B 65 (bookL m1 m2 tb lb ep)) : Calls Tryz.prog 16 #[.pointer (some ⟨B, 0, none⟩)] w fun e w' => e = .returned (.bool true) ∧ w = w' := by
  have hm : ∀ W, (binOp .neq 61 (.map (some m1)) (.map none)).run Tryz.prog W = .ok (.bool true) W := fun W => by kernel_rfl
  have c := h.cell
  clear h
  go_enter Tryz.func16, Tryz.ntmps16
  go_wp2
  go_ret
  exact ⟨rfl, rfl⟩
theorem results_rows {P : Program} {fn : Func} {p q : Tmp} {ty tz : TypeId} (h : fn.results = #[.cell p ty, .cell q tz]) (tmps : Array Value) (w : World) (g g' : Nat) (t t' : TypeId) (cs cs' : Array Value) (fr fr' : Nat × Nat) (d d' : TypeDesc)
    (hp : tmps.getD p undef = .pointer (some ⟨g, 0, none⟩)) (hg : w.heap[g]? = some (.cells cs t fr))
    (hu : P.underlying ty = some d) (hd : (match d with | .struct _ | .array _ _ => true | _ => false) = true) (hi : (P.info? ty).map (·.size) = some cs.size)
    (hp' : tmps.getD q undef = .pointer (some ⟨g', 0, none⟩)) (hg' : w.heap[g']? = some (.cells cs' t' fr'))
    (hu' : P.underlying tz = some d') (hd' : (match d' with | .struct _ | .array _ _ => true | _ => false) = true) (hi' : (P.info? tz).map (·.size) = some cs'.size) :
    (results fn tmps).run P w = .ok (.tuple #[.agg cs, .agg cs']) w := by
  have e1 : tmps[p]?.getD undef = .pointer (some ⟨g, 0, none⟩) := by simpa using hp
  have e2 : tmps[q]?.getD undef = .pointer (some ⟨g', 0, none⟩) := by simpa using hp'
  simp [results, h, e1, e2, asAddr, run_loadVar_row w g t ty cs fr d hg hu hd hi, run_loadVar_row w g' t' tz cs' fr' d' hg' hu' hd' hi']
end Am
end Go.Proofs.YtldlkepagmmohaaGreatDoor
