/-
  RefK: the document's answer: Del, its two regions.
-/
import Derived.Test.YtndghakagogmcaaRefI
import Derived.Deep.RegionLaw
namespace Go.Proofs.Ytndghakagogmcaa
open Go.RowKit Go.Shelf
set_option linter.unusedVariables false
set_option linter.unusedSimpArgs false
attribute [local go_sem] Oper.semAt_some
namespace Tree
open Mem BT
theorem frames49 {P : Act → Prop} (hP : ∀ u0 u1 u2 u3 u4 u5 u6 u7 u8 u9 u10 u11 u12 u13 u14 u15 u16 u17 u18 u19 u20 u21 u22 u23 u24 u25 u26 u27 u28 u29 u30 u31 u32 u33 u34 u35 u36 u37 u38 u39 u40 u41 u42 u43 u44 u45 u46 u47 u48 : Value, P ⟨#[u0, u1, u2, u3, u4, u5, u6, u7, u8, u9, u10, u11, u12, u13, u14, u15, u16, u17, u18, u19, u20, u21, u22, u23, u24, u25, u26, u27, u28, u29, u30, u31, u32, u33, u34, u35, u36, u37, u38, u39, u40, u41, u42, u43, u44, u45, u46, u47, u48], []⟩) : ∀ a : Act, a.tmps.size = 49 → a.defers = [] → P a := by
  rintro ⟨⟨t⟩, d⟩ h1 h2
  simp only [List.size_toArray] at h1 h2
  subst h2
  have h := unroll t 49 h1
  have e : (List.range 49).map (fun i => t.getD i undef) = [t.getD 0 undef, t.getD 1 undef, t.getD 2 undef, t.getD 3 undef, t.getD 4 undef, t.getD 5 undef, t.getD 6 undef, t.getD 7 undef, t.getD 8 undef, t.getD 9 undef, t.getD 10 undef, t.getD 11 undef, t.getD 12 undef, t.getD 13 undef, t.getD 14 undef, t.getD 15 undef, t.getD 16 undef, t.getD 17 undef, t.getD 18 undef, t.getD 19 undef, t.getD 20 undef, t.getD 21 undef, t.getD 22 undef, t.getD 23 undef, t.getD 24 undef, t.getD 25 undef, t.getD 26 undef, t.getD 27 undef, t.getD 28 undef, t.getD 29 undef, t.getD 30 undef, t.getD 31 undef, t.getD 32 undef, t.getD 33 undef, t.getD 34 undef, t.getD 35 undef, t.getD 36 undef, t.getD 37 undef, t.getD 38 undef, t.getD 39 undef, t.getD 40 undef, t.getD 41 undef, t.getD 42 undef, t.getD 43 undef, t.getD 44 undef, t.getD 45 undef, t.getD 46 undef, t.getD 47 undef, t.getD 48 undef] := rfl
  exact Eq.mpr (congrArg (fun l : List Value => P ⟨⟨l⟩, []⟩) (h.trans e)) (hP (t.getD 0 undef) (t.getD 1 undef) (t.getD 2 undef) (t.getD 3 undef) (t.getD 4 undef) (t.getD 5 undef) (t.getD 6 undef) (t.getD 7 undef) (t.getD 8 undef) (t.getD 9 undef) (t.getD 10 undef) (t.getD 11 undef) (t.getD 12 undef) (t.getD 13 undef) (t.getD 14 undef) (t.getD 15 undef) (t.getD 16 undef) (t.getD 17 undef) (t.getD 18 undef) (t.getD 19 undef) (t.getD 20 undef) (t.getD 21 undef) (t.getD 22 undef) (t.getD 23 undef) (t.getD 24 undef) (t.getD 25 undef) (t.getD 26 undef) (t.getD 27 undef) (t.getD 28 undef) (t.getD 29 undef) (t.getD 30 undef) (t.getD 31 undef) (t.getD 32 undef) (t.getD 33 undef) (t.getD 34 undef) (t.getD 35 undef) (t.getD 36 undef) (t.getD 37 undef) (t.getD 38 undef) (t.getD 39 undef) (t.getD 40 undef) (t.getD 41 undef) (t.getD 42 undef) (t.getD 43 undef) (t.getD 44 undef) (t.getD 45 undef) (t.getD 46 undef) (t.getD 47 undef) (t.getD 48 undef))
def regs : Code → List Code
  | .region i o d => [.region i o d]
  | .loop c => regs c
  | .seq a b => regs a ++ regs b
  | .block _ c => regs c
  | .scope c => regs c
  | .cond _ a b => regs a ++ regs b
  | .rangeFunc _ _ a b => regs a ++ regs b
  | _ => []
noncomputable def rdelAC : Code := (regs (Try.f25.body.getD .skip)).getD 4 .skip
def DelPost0 (R gi ci n pos : Nat) (sb : Value) (xs : List Value) (w w' : World) : Prop :=
  Blk w' R 54 [.slice (some ⟨gi, 0, none⟩) (n - 1) ci, sb] ∧ w'.ownsRow 0 32 1 (.slice (some ⟨gi, 0, none⟩) (n - 1) ci) (n - 1) (xs.take (pos * 1) ++ xs.drop ((pos + 1) * 1)) ∧ Keeps (fun k => k = R ∨ k = gi) w w'
set_option maxHeartbeats 4000000 in
set_option maxRecDepth 100000 in
theorem rdelA_far (w : World) (R gi ci n pos : Nat) (sb : Value) (xs : List Value) (hR : Blk w R 54 [.slice (some ⟨gi, 0, none⟩) n ci, sb]) (hI : w.ownsRow 0 32 1 (.slice (some ⟨gi, 0, none⟩) n ci) n xs) (h1 : ∀ u ∈ xs, u.oneCell' = true) (hp : pos < n) (hn : (n : Int) ≤ 65536) (hc : n ≤ ci) (hce : ci ≠ pos + 1)
    (a : Act) (hF : Fr a 49 [(0, .pointer (some ⟨R, 0, none⟩)), (5, .int .i64 (pos : Int))]) :
    rdelAC.wp Try.prog (Outs (fun a2 w2 => Fr a2 49 [(0, .pointer (some ⟨R, 0, none⟩)), (5, .int .i64 (pos : Int))] ∧ DelPost0 R gi ci n pos sb xs w w2) (fun _ _ _ => False) (fun _ _ => False)) a w := by
  revert hF
  refine fun hF => frames49 (P := fun a => Fr a 49 [(0, .pointer (some ⟨R, 0, none⟩)), (5, .int .i64 (pos : Int))] → rdelAC.wp Try.prog (Outs (fun a2 w2 => Fr a2 49 [(0, .pointer (some ⟨R, 0, none⟩)), (5, .int .i64 (pos : Int))] ∧ DelPost0 R gi ci n pos sb xs w w2) (fun _ _ _ => False) (fun _ _ => False)) a w) ?_ a hF.1 hF.2.1 hF
  intro u0 u1 u2 u3 u4 u5 u6 u7 u8 u9 u10 u11 u12 u13 u14 u15 u16 u17 u18 u19 u20 u21 u22 u23 u24 u25 u26 u27 u28 u29 u30 u31 u32 u33 u34 u35 u36 u37 u38 u39 u40 u41 u42 u43 u44 u45 u46 u47 u48 hF
  obtain rfl : u0 = .pointer (some ⟨R, 0, none⟩) := hF.at_ 0 _ (by simp)
  obtain rfl : u5 = .int .i64 (pos : Int) := hF.at_ 5 _ (by simp)
  clear hF
  obtain ⟨i0, hi0, hz0, hz1, hz2⟩ := info_parts u32Info
  have hp0 : (0 : Int) ≤ (pos : Int) := by omega
  have hq2 : (0 : Int) ≤ (pos : Int) + 1 := by omega
  have hw1 : IntKind.i64.wrap ((pos : Int) + 1) = (pos : Int) + 1 := IntWalk.i64_in _ (by omega)
  have hxl := hI.1
  have e1 : (pos + 1) * 1 = pos * 1 + 1 := by omega
  have hpn : (pos : Int) < n := by omega
  have hq1 : (pos : Int) + 1 ≤ n := by omega
  have hq3 : (n : Int) ≤ ci := by omega
  have hq5 : (pos : Int) ≤ ci := by omega
  have e2 : n * 1 = (n - (pos + 1)) * 1 + (pos + 1) * 1 := by rw [← Nat.add_mul]; congr 1; omega
  have hcut := row_cut hI.drew (i := pos) hp
  have HQ1 := Lib.hid (show (xs.drop ((pos + 1) * 1)).length = (n - (pos + 1)) * 1 from by rw [List.length_drop]; omega)
  have HQ2 := Lib.hid (show ∀ j u, (xs.drop ((pos + 1) * 1))[j]? = some u → w.drew.cell? ((⟨gi, pos + 1, none⟩ : Addr).add j) = some u from fun j u hj => by
    rw [Addr.add_mid]
    rw [List.getElem?_drop] at hj
    have hlt := (List.getElem?_eq_some_iff.1 hj).1
    rw [Nat.mul_one] at hj hlt
    exact (hI.cellAt (pos + 1 + j) (by omega)).trans hj)
  have HQ3 := Lib.hid (show ∀ u ∈ xs.drop ((pos + 1) * 1), u.oneCell' = true from fun u hu => h1 u (List.mem_of_mem_drop hu))
  have HQ4 := Lib.hid (show ∀ j, j < (xs.drop ((pos + 1) * 1)).length → (w.drew.cell? ⟨gi, 0 + pos * 1 + j, none⟩).isSome = true ∧ w.drew.frozen? ⟨gi, 0 + pos * 1 + j, none⟩ = false from fun j hj => by
    rw [List.length_drop] at hj
    refine ⟨?_, hI.frozenAt _⟩
    have hc := hI.cellAt (0 + pos * 1 + j) (by omega)
    have : w.drew.cell? ⟨gi, 0 + pos * 1 + j, none⟩ = xs[0 + pos * 1 + j]? := hc
    rw [this, List.getElem?_eq_getElem (by omega)]
    rfl)
  have hRi : R ≠ gi := fun e => by have := own_ne hI hR (by decide); simp [Value.ownBlock] at this; exact this e
  have hcs : ∀ j : Nat, (w.drew.setCells gi (0 + pos * 1) (xs.drop ((pos + 1) * 1))).cell? ⟨R, j, none⟩ = ([.slice (some ⟨gi, 0, none⟩) n ci, sb] : List Value)[j]? := fun j => (World.cell?_setCells_out gi _ _ _ _ (fun h => absurd h hRi)).trans (hR.cell j)
  have hfs : ∀ j : Nat, (w.drew.setCells gi (0 + pos * 1) (xs.drop ((pos + 1) * 1))).frozen? ⟨R, j, none⟩ = false := fun j => (World.frozen?_setCells gi _ _ _ _).trans (hR.frozen j)
  have hk0 : Keeps (fun k => k = gi) w.drew (w.drew.setCells gi (0 + pos * 1) (xs.drop ((pos + 1) * 1))) := keeps_setCells _ _ _
  have hnm : pos + (n - (pos + 1)) = n - 1 := by omega
  rw [show pos * 1 = 0 + pos * 1 by omega] at hcut
  have HRow := Lib.hid (And.intro hcut (And.intro hk0 (show Blk (w.drew.setCells gi (0 + pos * 1) (xs.drop ((pos + 1) * 1))) R 54 [.slice (some ⟨gi, 0, none⟩) n ci, sb] from hR.drew.keeps hk0 hRi)))
  have cR := hR.cell
  have fR := hR.frozen
  have HSa := Lib.hid (show ∀ j : Nat, w.drew.cell? ⟨R, j, none⟩ = ([.slice (some ⟨gi, 0, none⟩) n ci, sb] : List Value)[j]? from hR.drew.cell)
  have HNM := Lib.hid hnm
  skip
  clear hI hxl e1 hk0 h1 hnm hR hcut e2
  conv => arg 2; whnf
  go_region_law ((refine step_append_room (by rfl) (.tmp 21) (.tmp 28) 51 (by rfl) 32 i0 1 Try.underlying51 hi0 hz1 gi 0 pos ci (by simp [Act.eval, Act.put]) ⟨gi, pos + 1, none⟩ (n - (pos + 1)) (ci - (pos + 1)) (xs.drop ((pos + 1) * 1)) (by simp [Act.eval, Act.put]) HQ1.out HQ2.out HQ3.out (by omega) HQ4.out ?_; generalize w.drew.setCells gi (0 + pos * 1) (xs.drop ((pos + 1) * 1)) = w3 at *))
  all_goals have hr := HRow.out
  all_goals rw [show 0 + pos * 1 = pos * 1 by omega] at hr
  all_goals rw [HNM.out]
  all_goals refine ⟨⟨rfl, rfl, by simp⟩, ?_⟩
  all_goals exact ⟨by simpa using hr.2.2.set_ 0 (.slice (some ⟨gi, 0, none⟩) (n - 1) ci), owns_setCell hr.1 (p := ⟨R, 0, none⟩) (by simp [Value.ownBlock]; exact Ne.symm hRi) _, ((Keeps.refl (fun k => k = R ∨ k = gi) w).drew.trans (hr.2.1.mono (fun k _ h => .inr h))).setCell (p := ⟨R, 0, none⟩) (fun _ => .inl rfl) _⟩
set_option maxHeartbeats 4000000 in
set_option maxRecDepth 100000 in
theorem rdelA_near (w : World) (R gi pos : Nat) (sb : Value) (xs : List Value) (hR : Blk w R 54 [.slice (some ⟨gi, 0, none⟩) (pos + 1) (pos + 1), sb]) (hI : w.ownsRow 0 32 1 (.slice (some ⟨gi, 0, none⟩) (pos + 1) (pos + 1)) (pos + 1) xs) (h1 : ∀ u ∈ xs, u.oneCell' = true) (hn : (pos : Int) + 1 ≤ 65536)
    (a : Act) (hF : Fr a 49 [(0, .pointer (some ⟨R, 0, none⟩)), (5, .int .i64 (pos : Int))]) :
    rdelAC.wp Try.prog (Outs (fun a2 w2 => Fr a2 49 [(0, .pointer (some ⟨R, 0, none⟩)), (5, .int .i64 (pos : Int))] ∧ DelPost0 R gi (pos + 1) (pos + 1) pos sb xs w w2) (fun _ _ _ => False) (fun _ _ => False)) a w := by
  revert hF
  refine fun hF => frames49 (P := fun a => Fr a 49 [(0, .pointer (some ⟨R, 0, none⟩)), (5, .int .i64 (pos : Int))] → rdelAC.wp Try.prog (Outs (fun a2 w2 => Fr a2 49 [(0, .pointer (some ⟨R, 0, none⟩)), (5, .int .i64 (pos : Int))] ∧ DelPost0 R gi (pos + 1) (pos + 1) pos sb xs w w2) (fun _ _ _ => False) (fun _ _ => False)) a w) ?_ a hF.1 hF.2.1 hF
  intro u0 u1 u2 u3 u4 u5 u6 u7 u8 u9 u10 u11 u12 u13 u14 u15 u16 u17 u18 u19 u20 u21 u22 u23 u24 u25 u26 u27 u28 u29 u30 u31 u32 u33 u34 u35 u36 u37 u38 u39 u40 u41 u42 u43 u44 u45 u46 u47 u48 hF
  obtain rfl : u0 = .pointer (some ⟨R, 0, none⟩) := hF.at_ 0 _ (by simp)
  obtain rfl : u5 = .int .i64 (pos : Int) := hF.at_ 5 _ (by simp)
  clear hF
  obtain ⟨i0, hi0, hz0, hz1, hz2⟩ := info_parts u32Info
  have hp0 : (0 : Int) ≤ (pos : Int) := by omega
  have hq2 : (0 : Int) ≤ (pos : Int) + 1 := by omega
  have hw1 : IntKind.i64.wrap ((pos : Int) + 1) = (pos : Int) + 1 := IntWalk.i64_in _ (by omega)
  have hxl := hI.1
  have e1 : (pos + 1) * 1 = pos * 1 + 1 := by omega
  have hd : xs.drop ((pos + 1) * 1) = [] := List.drop_eq_nil_of_le (by omega)
  have hcut := row_cut hI.drew (i := pos) (by omega)
  rw [hd] at hcut
  have hq9 : (pos : Int) ≤ (pos : Int) + 1 := by omega
  have HQ1 := Lib.hid (show ([] : List Value).length = 0 * 1 from rfl)
  have HQ2 := Lib.hid (show ∀ j u, ([] : List Value)[j]? = some u → w.drew.cell? ((⟨gi, 0, none⟩ : Addr).add j) = some u from fun j u hj => by simp at hj)
  have HQ3 := Lib.hid (show ∀ u ∈ ([] : List Value), u.oneCell' = true from fun u hu => by simp at hu)
  have HQ4 := Lib.hid (show ∀ j, j < ([] : List Value).length → (w.drew.cell? ⟨gi, 0 + pos * 1 + j, none⟩).isSome = true ∧ w.drew.frozen? ⟨gi, 0 + pos * 1 + j, none⟩ = false from fun j hj => by simp at hj)
  have hRi : R ≠ gi := fun e => by have := own_ne hI hR (by decide); simp [Value.ownBlock] at this; exact this e
  have hcs : ∀ j : Nat, (w.drew.setCells gi (0 + pos * 1) ([] : List Value)).cell? ⟨R, j, none⟩ = ([.slice (some ⟨gi, 0, none⟩) (pos + 1) (pos + 1), sb] : List Value)[j]? := fun j => (World.cell?_setCells_out gi _ _ _ _ (fun h => absurd h hRi)).trans (hR.cell j)
  have hfs : ∀ j : Nat, (w.drew.setCells gi (0 + pos * 1) ([] : List Value)).frozen? ⟨R, j, none⟩ = false := fun j => (World.frozen?_setCells gi _ _ _ _).trans (hR.frozen j)
  have hk0 : Keeps (fun k => k = gi) w.drew (w.drew.setCells gi (0 + pos * 1) ([] : List Value)) := keeps_setCells _ _ _
  have hnm : pos + 1 - 1 = pos := by omega
  rw [show pos * 1 = 0 + pos * 1 by omega] at hcut
  have HRow := Lib.hid (And.intro hcut (And.intro hk0 (show Blk (w.drew.setCells gi (0 + pos * 1) ([] : List Value)) R 54 [.slice (some ⟨gi, 0, none⟩) (pos + 1) (pos + 1), sb] from hR.drew.keeps hk0 hRi)))
  have cR := hR.cell
  have fR := hR.frozen
  have HSa := Lib.hid (show ∀ j : Nat, w.drew.cell? ⟨R, j, none⟩ = ([.slice (some ⟨gi, 0, none⟩) (pos + 1) (pos + 1), sb] : List Value)[j]? from hR.drew.cell)
  have HNM := Lib.hid hnm
  have HD := Lib.hid hd
  clear hI hxl e1 hk0 h1 hnm hR hcut hd
  conv => arg 2; whnf
  go_region_law ((refine step_append_room (by rfl) (.tmp 21) (.tmp 28) 51 (by rfl) 32 i0 1 Try.underlying51 hi0 hz1 gi 0 pos (pos + 1) (by simp [Act.eval, Act.put]) ⟨gi, 0, none⟩ 0 0 ([] : List Value) (by simp [Act.eval, Act.put]) HQ1.out HQ2.out HQ3.out (by omega) HQ4.out ?_; generalize w.drew.setCells gi (0 + pos * 1) ([] : List Value) = w3 at *))
  all_goals have hr := HRow.out
  all_goals rw [show 0 + pos * 1 = pos * 1 by omega] at hr
  all_goals refine ⟨⟨rfl, rfl, by simp⟩, ?_⟩
  all_goals unfold DelPost0
  all_goals rw [HD.out]
  all_goals exact ⟨by simpa using hr.2.2.set_ 0 (.slice (some ⟨gi, 0, none⟩) pos (pos + 1)), owns_setCell hr.1 (p := ⟨R, 0, none⟩) (by simp [Value.ownBlock]; exact Ne.symm hRi) _, ((Keeps.refl (fun k => k = R ∨ k = gi) w).drew.trans (hr.2.1.mono (fun k _ h => .inr h))).setCell (p := ⟨R, 0, none⟩) (fun _ => .inl rfl) _⟩
noncomputable def rdelBC : Code := (regs (Try.f25.body.getD .skip)).getD 5 .skip
def DelPost1 (R gi ci n pos : Nat) (sb : Value) (xs : List Value) (w w' : World) : Prop :=
  Blk w' R 54 [sb, .slice (some ⟨gi, 0, none⟩) (n - 1) ci] ∧ w'.ownsRow 0 47 4 (.slice (some ⟨gi, 0, none⟩) (n - 1) ci) (n - 1) (xs.take (pos * 4) ++ xs.drop ((pos + 1) * 4)) ∧ Keeps (fun k => k = R ∨ k = gi) w w'
set_option maxHeartbeats 4000000 in
set_option maxRecDepth 100000 in
theorem rdelB_far (w : World) (R gi ci n pos : Nat) (sb : Value) (xs : List Value) (hR : Blk w R 54 [sb, .slice (some ⟨gi, 0, none⟩) n ci]) (hI : w.ownsRow 0 47 4 (.slice (some ⟨gi, 0, none⟩) n ci) n xs) (h1 : ∀ u ∈ xs, u.oneCell' = true) (hp : pos < n) (hn : (n : Int) ≤ 65536) (hc : n ≤ ci) (hce : ci ≠ pos + 1)
    (a : Act) (hF : Fr a 49 [(0, .pointer (some ⟨R, 0, none⟩)), (5, .int .i64 (pos : Int))]) :
    rdelBC.wp Try.prog (Outs (fun a2 w2 => Fr a2 49 [(0, .pointer (some ⟨R, 0, none⟩)), (5, .int .i64 (pos : Int))] ∧ DelPost1 R gi ci n pos sb xs w w2) (fun _ _ _ => False) (fun _ _ => False)) a w := by
  revert hF
  refine fun hF => frames49 (P := fun a => Fr a 49 [(0, .pointer (some ⟨R, 0, none⟩)), (5, .int .i64 (pos : Int))] → rdelBC.wp Try.prog (Outs (fun a2 w2 => Fr a2 49 [(0, .pointer (some ⟨R, 0, none⟩)), (5, .int .i64 (pos : Int))] ∧ DelPost1 R gi ci n pos sb xs w w2) (fun _ _ _ => False) (fun _ _ => False)) a w) ?_ a hF.1 hF.2.1 hF
  intro u0 u1 u2 u3 u4 u5 u6 u7 u8 u9 u10 u11 u12 u13 u14 u15 u16 u17 u18 u19 u20 u21 u22 u23 u24 u25 u26 u27 u28 u29 u30 u31 u32 u33 u34 u35 u36 u37 u38 u39 u40 u41 u42 u43 u44 u45 u46 u47 u48 hF
  obtain rfl : u0 = .pointer (some ⟨R, 0, none⟩) := hF.at_ 0 _ (by simp)
  obtain rfl : u5 = .int .i64 (pos : Int) := hF.at_ 5 _ (by simp)
  clear hF
  obtain ⟨i0, hi0, hz0, hz1, hz2⟩ := info_parts boxInfo
  have hp0 : (0 : Int) ≤ (pos : Int) := by omega
  have hq2 : (0 : Int) ≤ (pos : Int) + 1 := by omega
  have hw1 : IntKind.i64.wrap ((pos : Int) + 1) = (pos : Int) + 1 := IntWalk.i64_in _ (by omega)
  have hxl := hI.1
  have e1 : (pos + 1) * 4 = pos * 4 + 4 := by omega
  have hpn : (pos : Int) < n := by omega
  have hq1 : (pos : Int) + 1 ≤ n := by omega
  have hq3 : (n : Int) ≤ ci := by omega
  have hq5 : (pos : Int) ≤ ci := by omega
  have e2 : n * 4 = (n - (pos + 1)) * 4 + (pos + 1) * 4 := by rw [← Nat.add_mul]; congr 1; omega
  have hcut := row_cut hI.drew (i := pos) hp
  have HQ1 := Lib.hid (show (xs.drop ((pos + 1) * 4)).length = (n - (pos + 1)) * 4 from by rw [List.length_drop]; omega)
  have HQ2 := Lib.hid (show ∀ j u, (xs.drop ((pos + 1) * 4))[j]? = some u → w.drew.cell? ((⟨gi, (pos + 1) * 4, none⟩ : Addr).add j) = some u from fun j u hj => by
    rw [Addr.add_mid]
    rw [List.getElem?_drop] at hj
    have hlt := (List.getElem?_eq_some_iff.1 hj).1
    skip
    exact (hI.cellAt ((pos + 1) * 4 + j) (by omega)).trans hj)
  have HQ3 := Lib.hid (show ∀ u ∈ xs.drop ((pos + 1) * 4), u.oneCell' = true from fun u hu => h1 u (List.mem_of_mem_drop hu))
  have HQ4 := Lib.hid (show ∀ j, j < (xs.drop ((pos + 1) * 4)).length → (w.drew.cell? ⟨gi, 0 + pos * 4 + j, none⟩).isSome = true ∧ w.drew.frozen? ⟨gi, 0 + pos * 4 + j, none⟩ = false from fun j hj => by
    rw [List.length_drop] at hj
    refine ⟨?_, hI.frozenAt _⟩
    have hc := hI.cellAt (0 + pos * 4 + j) (by omega)
    have : w.drew.cell? ⟨gi, 0 + pos * 4 + j, none⟩ = xs[0 + pos * 4 + j]? := hc
    rw [this, List.getElem?_eq_getElem (by omega)]
    rfl)
  have hRi : R ≠ gi := fun e => by have := own_ne hI hR (by decide); simp [Value.ownBlock] at this; exact this e
  have hcs : ∀ j : Nat, (w.drew.setCells gi (0 + pos * 4) (xs.drop ((pos + 1) * 4))).cell? ⟨R, j, none⟩ = ([sb, .slice (some ⟨gi, 0, none⟩) n ci] : List Value)[j]? := fun j => (World.cell?_setCells_out gi _ _ _ _ (fun h => absurd h hRi)).trans (hR.cell j)
  have hfs : ∀ j : Nat, (w.drew.setCells gi (0 + pos * 4) (xs.drop ((pos + 1) * 4))).frozen? ⟨R, j, none⟩ = false := fun j => (World.frozen?_setCells gi _ _ _ _).trans (hR.frozen j)
  have hk0 : Keeps (fun k => k = gi) w.drew (w.drew.setCells gi (0 + pos * 4) (xs.drop ((pos + 1) * 4))) := keeps_setCells _ _ _
  have hnm : pos + (n - (pos + 1)) = n - 1 := by omega
  rw [show pos * 4 = 0 + pos * 4 by omega] at hcut
  have HRow := Lib.hid (And.intro hcut (And.intro hk0 (show Blk (w.drew.setCells gi (0 + pos * 4) (xs.drop ((pos + 1) * 4))) R 54 [sb, .slice (some ⟨gi, 0, none⟩) n ci] from hR.drew.keeps hk0 hRi)))
  have cR := hR.cell
  have fR := hR.frozen
  have HSa := Lib.hid (show ∀ j : Nat, w.drew.cell? ⟨R, j, none⟩ = ([sb, .slice (some ⟨gi, 0, none⟩) n ci] : List Value)[j]? from hR.drew.cell)
  have HNM := Lib.hid hnm
  skip
  clear hI hxl e1 hk0 h1 hnm hR hcut e2
  conv => arg 2; whnf
  go_region_law ((refine step_append_room (by rfl) (.tmp 38) (.tmp 45) 52 (by rfl) 47 i0 4 Try.underlying52 hi0 hz1 gi 0 pos ci (by simp [Act.eval, Act.put]) ⟨gi, (pos + 1) * 4, none⟩ (n - (pos + 1)) (ci - (pos + 1)) (xs.drop ((pos + 1) * 4)) (by simp [Act.eval, Act.put]) HQ1.out HQ2.out HQ3.out (by omega) HQ4.out ?_; generalize w.drew.setCells gi (0 + pos * 4) (xs.drop ((pos + 1) * 4)) = w3 at *))
  all_goals have hr := HRow.out
  all_goals rw [show 0 + pos * 4 = pos * 4 by omega] at hr
  all_goals rw [HNM.out]
  all_goals refine ⟨⟨rfl, rfl, by simp⟩, ?_⟩
  all_goals exact ⟨by simpa using hr.2.2.set_ 1 (.slice (some ⟨gi, 0, none⟩) (n - 1) ci), owns_setCell hr.1 (p := ⟨R, 1, none⟩) (by simp [Value.ownBlock]; exact Ne.symm hRi) _, ((Keeps.refl (fun k => k = R ∨ k = gi) w).drew.trans (hr.2.1.mono (fun k _ h => .inr h))).setCell (p := ⟨R, 1, none⟩) (fun _ => .inl rfl) _⟩
set_option maxHeartbeats 4000000 in
set_option maxRecDepth 100000 in
theorem rdelB_near (w : World) (R gi pos : Nat) (sb : Value) (xs : List Value) (hR : Blk w R 54 [sb, .slice (some ⟨gi, 0, none⟩) (pos + 1) (pos + 1)]) (hI : w.ownsRow 0 47 4 (.slice (some ⟨gi, 0, none⟩) (pos + 1) (pos + 1)) (pos + 1) xs) (h1 : ∀ u ∈ xs, u.oneCell' = true) (hn : (pos : Int) + 1 ≤ 65536)
    (a : Act) (hF : Fr a 49 [(0, .pointer (some ⟨R, 0, none⟩)), (5, .int .i64 (pos : Int))]) :
    rdelBC.wp Try.prog (Outs (fun a2 w2 => Fr a2 49 [(0, .pointer (some ⟨R, 0, none⟩)), (5, .int .i64 (pos : Int))] ∧ DelPost1 R gi (pos + 1) (pos + 1) pos sb xs w w2) (fun _ _ _ => False) (fun _ _ => False)) a w := by
  revert hF
  refine fun hF => frames49 (P := fun a => Fr a 49 [(0, .pointer (some ⟨R, 0, none⟩)), (5, .int .i64 (pos : Int))] → rdelBC.wp Try.prog (Outs (fun a2 w2 => Fr a2 49 [(0, .pointer (some ⟨R, 0, none⟩)), (5, .int .i64 (pos : Int))] ∧ DelPost1 R gi (pos + 1) (pos + 1) pos sb xs w w2) (fun _ _ _ => False) (fun _ _ => False)) a w) ?_ a hF.1 hF.2.1 hF
  intro u0 u1 u2 u3 u4 u5 u6 u7 u8 u9 u10 u11 u12 u13 u14 u15 u16 u17 u18 u19 u20 u21 u22 u23 u24 u25 u26 u27 u28 u29 u30 u31 u32 u33 u34 u35 u36 u37 u38 u39 u40 u41 u42 u43 u44 u45 u46 u47 u48 hF
  obtain rfl : u0 = .pointer (some ⟨R, 0, none⟩) := hF.at_ 0 _ (by simp)
  obtain rfl : u5 = .int .i64 (pos : Int) := hF.at_ 5 _ (by simp)
  clear hF
  obtain ⟨i0, hi0, hz0, hz1, hz2⟩ := info_parts boxInfo
  have hp0 : (0 : Int) ≤ (pos : Int) := by omega
  have hq2 : (0 : Int) ≤ (pos : Int) + 1 := by omega
  have hw1 : IntKind.i64.wrap ((pos : Int) + 1) = (pos : Int) + 1 := IntWalk.i64_in _ (by omega)
  have hxl := hI.1
  have e1 : (pos + 1) * 4 = pos * 4 + 4 := by omega
  have hd : xs.drop ((pos + 1) * 4) = [] := List.drop_eq_nil_of_le (by omega)
  have hcut := row_cut hI.drew (i := pos) (by omega)
  rw [hd] at hcut
  have hq9 : (pos : Int) ≤ (pos : Int) + 1 := by omega
  have HQ1 := Lib.hid (show ([] : List Value).length = 0 * 4 from rfl)
  have HQ2 := Lib.hid (show ∀ j u, ([] : List Value)[j]? = some u → w.drew.cell? ((⟨gi, 0, none⟩ : Addr).add j) = some u from fun j u hj => by simp at hj)
  have HQ3 := Lib.hid (show ∀ u ∈ ([] : List Value), u.oneCell' = true from fun u hu => by simp at hu)
  have HQ4 := Lib.hid (show ∀ j, j < ([] : List Value).length → (w.drew.cell? ⟨gi, 0 + pos * 4 + j, none⟩).isSome = true ∧ w.drew.frozen? ⟨gi, 0 + pos * 4 + j, none⟩ = false from fun j hj => by simp at hj)
  have hRi : R ≠ gi := fun e => by have := own_ne hI hR (by decide); simp [Value.ownBlock] at this; exact this e
  have hcs : ∀ j : Nat, (w.drew.setCells gi (0 + pos * 4) ([] : List Value)).cell? ⟨R, j, none⟩ = ([sb, .slice (some ⟨gi, 0, none⟩) (pos + 1) (pos + 1)] : List Value)[j]? := fun j => (World.cell?_setCells_out gi _ _ _ _ (fun h => absurd h hRi)).trans (hR.cell j)
  have hfs : ∀ j : Nat, (w.drew.setCells gi (0 + pos * 4) ([] : List Value)).frozen? ⟨R, j, none⟩ = false := fun j => (World.frozen?_setCells gi _ _ _ _).trans (hR.frozen j)
  have hk0 : Keeps (fun k => k = gi) w.drew (w.drew.setCells gi (0 + pos * 4) ([] : List Value)) := keeps_setCells _ _ _
  have hnm : pos + 1 - 1 = pos := by omega
  rw [show pos * 4 = 0 + pos * 4 by omega] at hcut
  have HRow := Lib.hid (And.intro hcut (And.intro hk0 (show Blk (w.drew.setCells gi (0 + pos * 4) ([] : List Value)) R 54 [sb, .slice (some ⟨gi, 0, none⟩) (pos + 1) (pos + 1)] from hR.drew.keeps hk0 hRi)))
  have cR := hR.cell
  have fR := hR.frozen
  have HSa := Lib.hid (show ∀ j : Nat, w.drew.cell? ⟨R, j, none⟩ = ([sb, .slice (some ⟨gi, 0, none⟩) (pos + 1) (pos + 1)] : List Value)[j]? from hR.drew.cell)
  have HNM := Lib.hid hnm
  have HD := Lib.hid hd
  clear hI hxl e1 hk0 h1 hnm hR hcut hd
  conv => arg 2; whnf
  go_region_law ((refine step_append_room (by rfl) (.tmp 38) (.tmp 45) 52 (by rfl) 47 i0 4 Try.underlying52 hi0 hz1 gi 0 pos (pos + 1) (by simp [Act.eval, Act.put]) ⟨gi, 0, none⟩ 0 0 ([] : List Value) (by simp [Act.eval, Act.put]) HQ1.out HQ2.out HQ3.out (by omega) HQ4.out ?_; generalize w.drew.setCells gi (0 + pos * 4) ([] : List Value) = w3 at *))
  all_goals have hr := HRow.out
  all_goals rw [show 0 + pos * 4 = pos * 4 by omega] at hr
  all_goals refine ⟨⟨rfl, rfl, by simp⟩, ?_⟩
  all_goals unfold DelPost1
  all_goals rw [HD.out]
  all_goals exact ⟨by simpa using hr.2.2.set_ 1 (.slice (some ⟨gi, 0, none⟩) pos (pos + 1)), owns_setCell hr.1 (p := ⟨R, 1, none⟩) (by simp [Value.ownBlock]; exact Ne.symm hRi) _, ((Keeps.refl (fun k => k = R ∨ k = gi) w).drew.trans (hr.2.1.mono (fun k _ h => .inr h))).setCell (p := ⟨R, 1, none⟩) (fun _ => .inl rfl) _⟩
end Tree
end Go.Proofs.Ytndghakagogmcaa
