/-
GrF: Put at the one box of 'works': the round.
GrG: Put at the one box of 'works'.
GrH: told at one cell: the round.
GrI: told at one cell.
-/
import Derived.Test.YtdbpfbokfmpgcaaGreatZabGrAGsPFiQGrBGrCGrDGrE
import Derived.Test.YtdbpfbokfmpgcaaGreatZaaMemIterTreeAHeldGrowIter
import Derived.Maps.RangeRun
set_option linter.unusedVariables false
set_option linter.unusedSimpArgs false
attribute [local go_sem] Go.Oper.semAt_some
namespace Go.Proofs.YtdbpfbokfmpgcaaGreat
theorem Z1 {p : Prop} (h : p := by
 rintro ⟨⟨t⟩, d⟩ h1 h2
 simp only [List.size_toArray] at h1 h2
 subst h2
 have h := unroll t 62 h1
 have e : (List.range 62).map (fun i => t.getD i undef) = [t.getD 0 undef, t.getD 1 undef, t.getD 2 undef, t.getD 3 undef, t.getD 4 undef, t.getD 5 undef, t.getD 6 undef, t.getD 7 undef, t.getD 8 undef, t.getD 9 undef, t.getD 10 undef, t.getD 11 undef, t.getD 12 undef, t.getD 13 undef, t.getD 14 undef, t.getD 15 undef, t.getD 16 undef, t.getD 17 undef, t.getD 18 undef, t.getD 19 undef, t.getD 20 undef, t.getD 21 undef, t.getD 22 undef, t.getD 23 undef, t.getD 24 undef, t.getD 25 undef, t.getD 26 undef, t.getD 27 undef, t.getD 28 undef, t.getD 29 undef, t.getD 30 undef, t.getD 31 undef, t.getD 32 undef, t.getD 33 undef, t.getD 34 undef, t.getD 35 undef, t.getD 36 undef, t.getD 37 undef, t.getD 38 undef, t.getD 39 undef, t.getD 40 undef, t.getD 41 undef, t.getD 42 undef, t.getD 43 undef, t.getD 44 undef, t.getD 45 undef, t.getD 46 undef, t.getD 47 undef, t.getD 48 undef, t.getD 49 undef, t.getD 50 undef, t.getD 51 undef, t.getD 52 undef, t.getD 53 undef, t.getD 54 undef, t.getD 55 undef, t.getD 56 undef, t.getD 57 undef, t.getD 58 undef, t.getD 59 undef, t.getD 60 undef, t.getD 61 undef] := rfl
 exact Eq.mpr (congrArg (fun l : List Value => P ⟨⟨l⟩, []⟩) (h.trans e)) (hP (t.getD 0 undef) (t.getD 1 undef) (t.getD 2 undef) (t.getD 3 undef) (t.getD 4 undef) (t.getD 5 undef) (t.getD 6 undef) (t.getD 7 undef) (t.getD 8 undef) (t.getD 9 undef) (t.getD 10 undef) (t.getD 11 undef) (t.getD 12 undef) (t.getD 13 undef) (t.getD 14 undef) (t.getD 15 undef) (t.getD 16 undef) (t.getD 17 undef) (t.getD 18 undef) (t.getD 19 undef) (t.getD 20 undef) (t.getD 21 undef) (t.getD 22 undef) (t.getD 23 undef) (t.getD 24 undef) (t.getD 25 undef) (t.getD 26 undef) (t.getD 27 undef) (t.getD 28 undef) (t.getD 29 undef) (t.getD 30 undef) (t.getD 31 undef) (t.getD 32 undef) (t.getD 33 undef) (t.getD 34 undef) (t.getD 35 undef) (t.getD 36 undef) (t.getD 37 undef) (t.getD 38 undef) (t.getD 39 undef) (t.getD 40 undef) (t.getD 41 undef) (t.getD 42 undef) (t.getD 43 undef) (t.getD 44 undef) (t.getD 45 undef) (t.getD 46 undef) (t.getD 47 undef) (t.getD 48 undef) (t.getD 49 undef) (t.getD 50 undef) (t.getD 51 undef) (t.getD 52 undef) (t.getD 53 undef) (t.getD 54 undef) (t.getD 55 undef) (t.getD 56 undef) (t.getD 57 undef) (t.getD 58 undef) (t.getD 59 undef) (t.getD 60 undef) (t.getD 61 undef))) : p := h
theorem ZO {p : Prop} (h : p := by
 rintro ⟨⟨t⟩, d⟩ h1 h2
 simp only [List.size_toArray] at h1 h2
 subst h2
 have h := unroll t 36 h1
 have e : (List.range 36).map (fun i => t.getD i undef) = [t.getD 0 undef, t.getD 1 undef, t.getD 2 undef, t.getD 3 undef, t.getD 4 undef, t.getD 5 undef, t.getD 6 undef, t.getD 7 undef, t.getD 8 undef, t.getD 9 undef, t.getD 10 undef, t.getD 11 undef, t.getD 12 undef, t.getD 13 undef, t.getD 14 undef, t.getD 15 undef, t.getD 16 undef, t.getD 17 undef, t.getD 18 undef, t.getD 19 undef, t.getD 20 undef, t.getD 21 undef, t.getD 22 undef, t.getD 23 undef, t.getD 24 undef, t.getD 25 undef, t.getD 26 undef, t.getD 27 undef, t.getD 28 undef, t.getD 29 undef, t.getD 30 undef, t.getD 31 undef, t.getD 32 undef, t.getD 33 undef, t.getD 34 undef, t.getD 35 undef] := rfl
 exact Eq.mpr (congrArg (fun l : List Value => P ⟨⟨l⟩, []⟩) (h.trans e)) (hP (t.getD 0 undef) (t.getD 1 undef) (t.getD 2 undef) (t.getD 3 undef) (t.getD 4 undef) (t.getD 5 undef) (t.getD 6 undef) (t.getD 7 undef) (t.getD 8 undef) (t.getD 9 undef) (t.getD 10 undef) (t.getD 11 undef) (t.getD 12 undef) (t.getD 13 undef) (t.getD 14 undef) (t.getD 15 undef) (t.getD 16 undef) (t.getD 17 undef) (t.getD 18 undef) (t.getD 19 undef) (t.getD 20 undef) (t.getD 21 undef) (t.getD 22 undef) (t.getD 23 undef) (t.getD 24 undef) (t.getD 25 undef) (t.getD 26 undef) (t.getD 27 undef) (t.getD 28 undef) (t.getD 29 undef) (t.getD 30 undef) (t.getD 31 undef) (t.getD 32 undef) (t.getD 33 undef) (t.getD 34 undef) (t.getD 35 undef))) : p := h
open Go.RowKit Go.Shelf
namespace Gr
open Mem
theorem frames62 {P : Act → Prop} (hP : ∀ u0 u1 u2 u3 u4 u5 u6 u7 u8 u9 u10 u11 u12 u13 u14 u15 u16 u17 u18 u19 u20 u21 u22 u23 u24 u25 u26 u27 u28 u29 u30 u31 u32 u33 u34 u35 u36 u37 u38 u39 u40 u41 u42 u43 u44 u45 u46 u47 u48 u49 u50 u51 u52 u53 u54 u55 u56 u57 u58 u59 u60 u61 : Value, P ⟨#[u0, u1, u2, u3, u4, u5, u6, u7, u8, u9, u10, u11, u12, u13, u14, u15, u16, u17, u18, u19, u20, u21, u22, u23, u24, u25, u26, u27, u28, u29, u30, u31, u32, u33, u34, u35, u36, u37, u38, u39, u40, u41, u42, u43, u44, u45, u46, u47, u48, u49, u50, u51, u52, u53, u54, u55, u56, u57, u58, u59, u60, u61], []⟩) : ∀ a : Act, a.tmps.size = 62 → a.defers = [] → P a := by
 exact Z1
noncomputable def putBody : Code := (rbods (Tryz.f121.body.getD .skip)).getD 0 .skip
def Ent (W : World) (r2 g : Nat) : Prop := ∃ cap, Mp W r2 #[⟨.agg #[.int .i32 0, .int .i32 0], .slice (some ⟨g, 0, none⟩) 1 cap, 0⟩] 1 ∧ W.ownsRow 0 35 1 (.slice (some ⟨g, 0, none⟩) 1 cap) 1 [.int .u32 4]
def PutI (W0 : World) (r2 : Nat) (pre : List (Int × Int)) (S : Nat → Prop) (W : World) : Prop :=
 Keeps (fun k => k = r2) W0 W ∧ ((pre = [] ∧ Mp W r2 #[] 0 ∧ ∀ k, S k ↔ k = r2) ∨ (pre ≠ [] ∧ ∃ g, W0.heap.size ≤ g ∧ Ent W r2 g ∧ ∀ k, S k ↔ k = r2 ∨ k = g))
def PutM (W0 : World) (G r2 B27 B35 : Nat) (s : List (Int × Int) × (Int × Int) × Act) (S : Nat → Prop) (W : World) : Prop :=
 ∃ X, Fr s.2.2 62 [(3, .pointer (some ⟨B27, 0, none⟩)), (4, .pointer (some ⟨B35, 0, none⟩)), (9, .pointer (some ⟨X, 0, none⟩))] ∧ Blk W X 181 [.int .i32 s.2.1.1, .int .i32 s.2.1.2] ∧ Keeps (fun k => k = r2) W0 W ∧ (s.1 = [] → Mp W r2 #[] 0) ∧ (∀ k, S k ↔ k = r2 ∨ k = X)
end Gr
open Go.RowKit Go.Shelf
namespace Gr
open Mem
end Gr
open Go.RowKit Go.Shelf
namespace Gr
open Mem
theorem frames36 {P : Act → Prop} (hP : ∀ u0 u1 u2 u3 u4 u5 u6 u7 u8 u9 u10 u11 u12 u13 u14 u15 u16 u17 u18 u19 u20 u21 u22 u23 u24 u25 u26 u27 u28 u29 u30 u31 u32 u33 u34 u35 : Value, P ⟨#[u0, u1, u2, u3, u4, u5, u6, u7, u8, u9, u10, u11, u12, u13, u14, u15, u16, u17, u18, u19, u20, u21, u22, u23, u24, u25, u26, u27, u28, u29, u30, u31, u32, u33, u34, u35], []⟩) : ∀ a : Act, a.tmps.size = 36 → a.defers = [] → P a := by
 exact ZO
noncomputable def toldBody : Code := (rbods (Tryz.f123.body.getD .skip)).getD 0 .skip
def u32v (V : List Nat) : List Value := V.map fun x : Nat => .int .u32 (x : Int)
def ToldI (w : World) (B : Nat) (V : List Nat) (pre : List (Int × Int)) (S : Nat → Prop) (W : World) : Prop :=
 Below w.heap.size w W ∧ ((pre = [] ∧ Blk W B 45 [.slice none 0 0] ∧ ∀ k, S k ↔ k = B) ∨
  (pre ≠ [] ∧ ∃ a cp, Blk W B 45 [.slice a V.length cp] ∧ W.ownsRow w.heap.size 35 1 (.slice a V.length cp) V.length (u32v V) ∧ ∀ k, S k ↔ k = B ∨ (Value.slice a V.length cp).ownBlock = some k))
def ToldM (w : World) (B27 B : Nat) (s : List (Int × Int) × (Int × Int) × Act) (S : Nat → Prop) (W : World) : Prop :=
 ∃ X, Fr s.2.2 36 [(2, .pointer (some ⟨B27, 0, none⟩)), (5, .pointer (some ⟨B, 0, none⟩)), (7, .pointer (some ⟨X, 0, none⟩))] ∧ Blk W X 181 [.int .i32 s.2.1.1, .int .i32 s.2.1.2] ∧ Below w.heap.size w W ∧ (s.1 = [] → Blk W B 45 [.slice none 0 0]) ∧ (∀ k, S k ↔ k = B ∨ k = X)
end Gr
open Go.RowKit Go.Shelf
namespace Gr
open Mem
def Vals (base : Nat) (w : World) (VB : Nat) (V : List Nat) : Prop := base ≤ VB ∧ ∃ a cp, Blk w VB 45 [.slice a V.length cp] ∧ w.ownsRow base 35 1 (.slice a V.length cp) V.length (u32v V)
theorem own_mono {w : World} {base base' : Nat} {e : TypeId} {size : Nat} {v : Value} {n : Nat} {xs : List Value} (h : w.ownsRow base e size v n xs) (hb : base' ≤ base) : w.ownsRow base' e size v n xs := by
 refine ⟨h.1, ?_⟩
 rcases h.2 with h2 | ⟨g, cap, cur, h1, h2, h3⟩
 ·exact .inl h2
 ·exact .inr ⟨g, cap, cur, h1, Nat.le_trans hb h2, h3⟩
end Gr
end Go.Proofs.YtdbpfbokfmpgcaaGreat
