/-
GrF: Put at the one box of 'works': the round.
GrG: Put at the one box of 'works'.
GrH: told at one cell: the round.
GrI: told at one cell.
-/
import Derived.Test.YtdbpfbokfmpgcaaZacGrCGrDGrE
import Derived.Test.YtdbpfbokfmpgcaaZaoFrGsBHeldInFr181
import Derived.Test.YtdbpfbokfmpgcaaZalGrowGsGGsP
import Derived.Maps.RangeRun
namespace Go.Proofs.Ytdbpfbokfmpgcaa
open Go.RowKit Go.Shelf
set_option linter.unusedVariables false
set_option linter.unusedSimpArgs false
attribute [local go_sem] Oper.semAt_some
namespace Gr
open Mem
theorem u32Info : (Try.prog.info? 31).map (fun i => (i.zero, i.size, i.bytes)) = some (some (.int .u32 0), 1, 4) := by kernel_rfl
theorem frames62 {P : Act → Prop} (hP : ∀ u0 u1 u2 u3 u4 u5 u6 u7 u8 u9 u10 u11 u12 u13 u14 u15 u16 u17 u18 u19 u20 u21 u22 u23 u24 u25 u26 u27 u28 u29 u30 u31 u32 u33 u34 u35 u36 u37 u38 u39 u40 u41 u42 u43 u44 u45 u46 u47 u48 u49 u50 u51 u52 u53 u54 u55 u56 u57 u58 u59 u60 u61 : Value, P ⟨#[u0, u1, u2, u3, u4, u5, u6, u7, u8, u9, u10, u11, u12, u13, u14, u15, u16, u17, u18, u19, u20, u21, u22, u23, u24, u25, u26, u27, u28, u29, u30, u31, u32, u33, u34, u35, u36, u37, u38, u39, u40, u41, u42, u43, u44, u45, u46, u47, u48, u49, u50, u51, u52, u53, u54, u55, u56, u57, u58, u59, u60, u61], []⟩) : ∀ a : Act, a.tmps.size = 62 → a.defers = [] → P a := by
  rintro ⟨⟨t⟩, d⟩ h1 h2
  simp only [List.size_toArray] at h1 h2
  subst h2
  have h := unroll t 62 h1
  have e : (List.range 62).map (fun i => t.getD i undef) = [t.getD 0 undef, t.getD 1 undef, t.getD 2 undef, t.getD 3 undef, t.getD 4 undef, t.getD 5 undef, t.getD 6 undef, t.getD 7 undef, t.getD 8 undef, t.getD 9 undef, t.getD 10 undef, t.getD 11 undef, t.getD 12 undef, t.getD 13 undef, t.getD 14 undef, t.getD 15 undef, t.getD 16 undef, t.getD 17 undef, t.getD 18 undef, t.getD 19 undef, t.getD 20 undef, t.getD 21 undef, t.getD 22 undef, t.getD 23 undef, t.getD 24 undef, t.getD 25 undef, t.getD 26 undef, t.getD 27 undef, t.getD 28 undef, t.getD 29 undef, t.getD 30 undef, t.getD 31 undef, t.getD 32 undef, t.getD 33 undef, t.getD 34 undef, t.getD 35 undef, t.getD 36 undef, t.getD 37 undef, t.getD 38 undef, t.getD 39 undef, t.getD 40 undef, t.getD 41 undef, t.getD 42 undef, t.getD 43 undef, t.getD 44 undef, t.getD 45 undef, t.getD 46 undef, t.getD 47 undef, t.getD 48 undef, t.getD 49 undef, t.getD 50 undef, t.getD 51 undef, t.getD 52 undef, t.getD 53 undef, t.getD 54 undef, t.getD 55 undef, t.getD 56 undef, t.getD 57 undef, t.getD 58 undef, t.getD 59 undef, t.getD 60 undef, t.getD 61 undef] := rfl
  exact Eq.mpr (congrArg (fun l : List Value => P ⟨⟨l⟩, []⟩) (h.trans e)) (hP (t.getD 0 undef) (t.getD 1 undef) (t.getD 2 undef) (t.getD 3 undef) (t.getD 4 undef) (t.getD 5 undef) (t.getD 6 undef) (t.getD 7 undef) (t.getD 8 undef) (t.getD 9 undef) (t.getD 10 undef) (t.getD 11 undef) (t.getD 12 undef) (t.getD 13 undef) (t.getD 14 undef) (t.getD 15 undef) (t.getD 16 undef) (t.getD 17 undef) (t.getD 18 undef) (t.getD 19 undef) (t.getD 20 undef) (t.getD 21 undef) (t.getD 22 undef) (t.getD 23 undef) (t.getD 24 undef) (t.getD 25 undef) (t.getD 26 undef) (t.getD 27 undef) (t.getD 28 undef) (t.getD 29 undef) (t.getD 30 undef) (t.getD 31 undef) (t.getD 32 undef) (t.getD 33 undef) (t.getD 34 undef) (t.getD 35 undef) (t.getD 36 undef) (t.getD 37 undef) (t.getD 38 undef) (t.getD 39 undef) (t.getD 40 undef) (t.getD 41 undef) (t.getD 42 undef) (t.getD 43 undef) (t.getD 44 undef) (t.getD 45 undef) (t.getD 46 undef) (t.getD 47 undef) (t.getD 48 undef) (t.getD 49 undef) (t.getD 50 undef) (t.getD 51 undef) (t.getD 52 undef) (t.getD 53 undef) (t.getD 54 undef) (t.getD 55 undef) (t.getD 56 undef) (t.getD 57 undef) (t.getD 58 undef) (t.getD 59 undef) (t.getD 60 undef) (t.getD 61 undef))
noncomputable def putBody : Code := (rbods (Try.f12.body.getD .skip)).getD 0 .skip
/-- the list of the one cell -/
def Ent (W : World) (r2 g : Nat) : Prop := ∃ cap, Mp W r2 #[⟨.agg #[.int .i32 0, .int .i32 0], .slice (some ⟨g, 0, none⟩) 1 cap, 0⟩] 1 ∧ W.ownsRow 0 31 1 (.slice (some ⟨g, 0, none⟩) 1 cap) 1 [.int .u32 4]
def PutI (W0 : World) (r2 : Nat) (pre : List (Int × Int)) (S : Nat → Prop) (W : World) : Prop :=
  Keeps (fun k => k = r2) W0 W ∧ ((pre = [] ∧ Mp W r2 #[] 0 ∧ ∀ k, S k ↔ k = r2) ∨ (pre ≠ [] ∧ ∃ g, W0.heap.size ≤ g ∧ Ent W r2 g ∧ ∀ k, S k ↔ k = r2 ∨ k = g))
theorem puti_stab (W0 : World) (r2 : Nat) : Stab W0.heap.size (PutI W0 r2) := by
  intro pre S T W W' h hin hk hd ht
  obtain ⟨h1, h2⟩ := h
  refine ⟨h1.then hk (fun i hi hT => absurd (ht i hT) (by omega)), ?_⟩
  rcases h2 with ⟨rfl, h3, h4⟩ | ⟨hp, g, hg, ⟨cap, h3, h4⟩, h5⟩
  · exact .inl ⟨rfl, h3.keeps hk (hd _ ((h4 _).2 rfl)), h4⟩
  · exact .inr ⟨hp, g, hg, ⟨cap, h3.keeps hk (hd _ ((h5 _).2 (.inl rfl))), owns_keeps h4 hk (fun k hk' => hd _ ((h5 _).2 (.inr (by simpa [Value.ownBlock] using hk'.symm))))⟩, h5⟩
def PutM (W0 : World) (G r2 B27 B35 : Nat) (s : List (Int × Int) × (Int × Int) × Act) (S : Nat → Prop) (W : World) : Prop :=
  ∃ X, Fr s.2.2 62 [(3, .pointer (some ⟨B27, 0, none⟩)), (4, .pointer (some ⟨B35, 0, none⟩)), (9, .pointer (some ⟨X, 0, none⟩))] ∧ Blk W X 65 [.int .i32 s.2.1.1, .int .i32 s.2.1.2] ∧ Keeps (fun k => k = r2) W0 W ∧ (s.1 = [] → Mp W r2 #[] 0) ∧ (∀ k, S k ↔ k = r2 ∨ k = X)
theorem putm_stab (W0 : World) (G r2 B27 B35 : Nat) : Stab W0.heap.size (PutM W0 G r2 B27 B35) := by
  intro s S T W W' h hin hk hd ht
  obtain ⟨X, hF, h1, h2, h3, h4⟩ := h
  exact ⟨X, hF, h1.keeps hk (hd _ ((h4 _).2 (.inr rfl))), h2.then hk (fun i hi hT => absurd (ht i hT) (by omega)), fun e => (h3 e).keeps hk (hd _ ((h4 _).2 (.inl rfl))), h4⟩
set_option maxHeartbeats 4000000 in
set_option maxRecDepth 100000 in
theorem put_body (l : Nat) (W0 : World) (G r1 r2 r3 B27 B35 : Nat) (hG : Blk W0 G 52 [.int .i64 10, .map (some r1), .map (some r2), .map (some r3)]) (b27 : Blk W0 B27 23 [.pointer (some ⟨G, 0, none⟩)]) (b35 : Blk W0 B35 31 [.int .u32 4]) (hM0 : Mp W0 r2 #[] 0)
    (S : Nat → Prop) (W : World) (a : Act) (hM : PutM W0 G r2 B27 B35 ([], (0, 0), a) S W) (hin : Inb S W) : putBody.wpIn (Fence.wide.inRound l) 7 Try.prog (Mem.Left (PutI W0 r2) (fun _ _ _ _ => False) ([] ++ [((0 : Int), (0 : Int))]) S W) a W := by
  obtain ⟨X, hF, hX, hK, hM, hS⟩ := hM
  have hM := hM rfl
  simp only at hF hX
  revert hF
  refine fun hF => frames62 (P := fun a => Fr a 62 [(3, .pointer (some ⟨B27, 0, none⟩)), (4, .pointer (some ⟨B35, 0, none⟩)), (9, .pointer (some ⟨X, 0, none⟩))] → putBody.wpIn (Fence.wide.inRound l) 7 Try.prog (Mem.Left (PutI W0 r2) (fun _ _ _ _ => False) ([] ++ [((0 : Int), (0 : Int))]) S W) a W) ?_ a hF.1 hF.2.1 hF
  intro u0 u1 u2 u3 u4 u5 u6 u7 u8 u9 u10 u11 u12 u13 u14 u15 u16 u17 u18 u19 u20 u21 u22 u23 u24 u25 u26 u27 u28 u29 u30 u31 u32 u33 u34 u35 u36 u37 u38 u39 u40 u41 u42 u43 u44 u45 u46 u47 u48 u49 u50 u51 u52 u53 u54 u55 u56 u57 u58 u59 u60 u61 hF
  obtain rfl : u3 = .pointer (some ⟨B27, 0, none⟩) := hF.at_ 3 _ (by simp)
  obtain rfl : u4 = .pointer (some ⟨B35, 0, none⟩) := hF.at_ 4 _ (by simp)
  obtain rfl : u9 = .pointer (some ⟨X, 0, none⟩) := hF.at_ 9 _ (by simp)
  clear hF
  have e1 := hM0.ne hG
  have e2 := hM0.ne b27
  have e3 := hM0.ne b35
  have e4 := hM.ne hX
  have HSN := Lib.hid (show ∀ W', Keeps (fun k => k = r2) W W' → (∀ i : Nat, W'.cell? ⟨B27, i, none⟩ = ([.pointer (some ⟨G, 0, none⟩)] : List Value)[i]?) ∧ (∀ i : Nat, W'.cell? ⟨G, i, none⟩ = ([.int .i64 10, .map (some r1), .map (some r2), .map (some r3)] : List Value)[i]?) ∧ (∀ i : Nat, W'.cell? ⟨X, i, none⟩ = ([.int .i32 0, .int .i32 0] : List Value)[i]?) ∧ W'.cell? ⟨B35, 0, none⟩ = some (.int .u32 4) from fun W' hk => ⟨(((b27.keeps hK e2).keeps hk e2)).cell, (((hG.keeps hK e1).keeps hk e1)).cell, (hX.keeps hk e4).cell, by have := ((b35.keeps hK e3).keeps hk e3).cell 0; simpa using this⟩)
  have hS0 : (∀ i : Nat, W.drew.cell? ⟨B27, i, none⟩ = ([.pointer (some ⟨G, 0, none⟩)] : List Value)[i]?) ∧ (∀ i : Nat, W.drew.cell? ⟨G, i, none⟩ = ([.int .i64 10, .map (some r1), .map (some r2), .map (some r3)] : List Value)[i]?) ∧ (∀ i : Nat, W.drew.cell? ⟨X, i, none⟩ = ([.int .i32 0, .int .i32 0] : List Value)[i]?) ∧ W.drew.cell? ⟨B35, 0, none⟩ = some (.int .u32 4) := HSN.out _ (Keeps.refl _ W).drew
  obtain ⟨i0, hi0, hz0, hz1, hz2⟩ := info_parts u32Info
  have HI := Lib.hid (And.intro hK (And.intro hS hin))
  have HE := Lib.hid e4
  have hA2 := en62 (hM.alloc (.cells #[.int .u32 4] 31)).drew 0 0
  have HM := Lib.hid hM
  clear hK hS hin hG b27 b35 hM0 e1 e2 e3 e4 hX hM
  conv => arg 4; whnf
  gi_wp2
  refine region_heldIn (fun W' => (∀ i : Nat, W'.cell? ⟨B27, i, none⟩ = ([.pointer (some ⟨G, 0, none⟩)] : List Value)[i]?) ∧ (∀ i : Nat, W'.cell? ⟨G, i, none⟩ = ([.int .i64 10, .map (some r1), .map (some r2), .map (some r3)] : List Value)[i]?) ∧ (∀ i : Nat, W'.cell? ⟨X, i, none⟩ = ([.int .i32 0, .int .i32 0] : List Value)[i]?) ∧ W'.cell? ⟨B35, 0, none⟩ = some (.int .u32 4)) (by kernel_rfl) ?_
  (refine anyHeld_take 0 (v := ?_) (by kernel_rfl) rfl (by kernel_rfl) (by kernel_rfl) (by kernel_rfl) (fun _ _ _ h => h) ⟨Or.inl ⟨by rfl, ?_⟩, fun _ _ _ => trivial⟩ (by with_reducible assumption) ?_; rotate_left; (focus (rintro w ⟨q1, q2, q3, q4⟩; go_simp; try with_reducible rfl))); simp only [Act.put, List.getElem_toArray, List.getElem_cons_succ, List.getElem_cons_zero, List.setIfInBounds_toArray, List.set_cons_zero, List.set_cons_succ]
  (refine anyHeld_take 1 (v := ?_) (by kernel_rfl) rfl (by kernel_rfl) (by kernel_rfl) (by kernel_rfl) (fun _ _ _ h => h) ⟨Or.inl ⟨by rfl, ?_⟩, fun _ _ _ => trivial⟩ (by with_reducible assumption) ?_; rotate_left; (focus (rintro w ⟨q1, q2, q3, q4⟩; go_simp; try with_reducible rfl))); simp only [Act.put, List.getElem_toArray, List.getElem_cons_succ, List.getElem_cons_zero, List.setIfInBounds_toArray, List.set_cons_zero, List.set_cons_succ]
  (refine anyHeld_take 2 (v := ?_) (by kernel_rfl) rfl (by kernel_rfl) (by kernel_rfl) (by kernel_rfl) (fun _ _ _ h => h) ⟨Or.inl ⟨by rfl, ?_⟩, fun _ _ _ => trivial⟩ (by with_reducible assumption) ?_; rotate_left; (focus (rintro w ⟨q1, q2, q3, q4⟩; go_simp; try with_reducible rfl))); simp only [Act.put, List.getElem_toArray, List.getElem_cons_succ, List.getElem_cons_zero, List.setIfInBounds_toArray, List.set_cons_zero, List.set_cons_succ]
  (refine anyHeld_take 3 (v := ?_) (by kernel_rfl) rfl (by kernel_rfl) (by kernel_rfl) (by kernel_rfl) (fun _ _ _ h => h) ⟨Or.inl ⟨by rfl, ?_⟩, fun _ _ _ => trivial⟩ (by with_reducible assumption) ?_; rotate_left; (focus (rintro w ⟨q1, q2, q3, q4⟩; go_simp; try with_reducible rfl))); simp only [Act.put, List.getElem_toArray, List.getElem_cons_succ, List.getElem_cons_zero, List.setIfInBounds_toArray, List.set_cons_zero, List.set_cons_succ]
  (refine anyHeld_take 4 (v := ?_) (by kernel_rfl) rfl (by kernel_rfl) (by kernel_rfl) (by kernel_rfl) (fun _ _ _ h => h) ⟨Or.inl ⟨by rfl, ?_⟩, fun _ _ _ => trivial⟩ (by with_reducible assumption) ?_; rotate_left; (focus (rintro w ⟨q1, q2, q3, q4⟩; go_simp; try with_reducible rfl))); simp only [Act.put, List.getElem_toArray, List.getElem_cons_succ, List.getElem_cons_zero, List.setIfInBounds_toArray, List.set_cons_zero, List.set_cons_succ]
  (refine anyHeld_take 5 (v := ?_) (by kernel_rfl) rfl (by kernel_rfl) (by kernel_rfl) (by kernel_rfl) (fun _ _ _ h => h) ⟨Or.inl ⟨by rfl, ?_⟩, fun _ _ _ => trivial⟩ (by with_reducible assumption) ?_; rotate_left; (focus (rintro w ⟨q1, q2, q3, q4⟩; go_simp; try with_reducible rfl))); simp only [Act.put, List.getElem_toArray, List.getElem_cons_succ, List.getElem_cons_zero, List.setIfInBounds_toArray, List.set_cons_zero, List.set_cons_succ]
  refine anyHeld_one 6 (by kernel_rfl) rfl (by rfl) (fun K hK => ?_)
  go_simp
  refine hK _ _ (HSN.out _ (by repeat (first | exact Keeps.refl _ _ | refine Keeps.alloc ?_ _ | refine Keeps.drew ?_))) ?_
  clear hK
  have hS1 : (∀ i : Nat, (setM (W.alloc (.cells #[.int .u32 4] 31)).drew r2 #[⟨.agg #[.int .i32 0, .int .i32 0], .slice none 0 0, 0⟩] 1).cell? ⟨B27, i, none⟩ = ([.pointer (some ⟨G, 0, none⟩)] : List Value)[i]?) ∧ (∀ i : Nat, (setM (W.alloc (.cells #[.int .u32 4] 31)).drew r2 #[⟨.agg #[.int .i32 0, .int .i32 0], .slice none 0 0, 0⟩] 1).cell? ⟨G, i, none⟩ = ([.int .i64 10, .map (some r1), .map (some r2), .map (some r3)] : List Value)[i]?) ∧ (∀ i : Nat, (setM (W.alloc (.cells #[.int .u32 4] 31)).drew r2 #[⟨.agg #[.int .i32 0, .int .i32 0], .slice none 0 0, 0⟩] 1).cell? ⟨X, i, none⟩ = ([.int .i32 0, .int .i32 0] : List Value)[i]?) ∧ (setM (W.alloc (.cells #[.int .u32 4] 31)).drew r2 #[⟨.agg #[.int .i32 0, .int .i32 0], .slice none 0 0, 0⟩] 1).cell? ⟨B35, 0, none⟩ = some (.int .u32 4) := HSN.out _ (((Keeps.refl _ W).alloc _).drew.trans (setM_keeps _ _ _ _))
  refine anyHeld_one 7 (by kernel_rfl) rfl (by rfl) (fun K hK => ?_)
  go_simp
  refine hK _ _ hS1 ?_
  clear hK hS0
  (refine anyHeld_take 8 (v := ?_) (by kernel_rfl) rfl (by kernel_rfl) (by kernel_rfl) (by kernel_rfl) (fun _ _ _ h => h) ⟨Or.inl ⟨by rfl, ?_⟩, fun _ _ _ => trivial⟩ (by with_reducible assumption) ?_; rotate_left; (focus (rintro w ⟨q1, q2, q3, q4⟩; go_simp; try with_reducible rfl))); simp only [Act.put, List.getElem_toArray, List.getElem_cons_succ, List.getElem_cons_zero, List.setIfInBounds_toArray, List.set_cons_zero, List.set_cons_succ]
  (refine anyHeld_take 10 (v := ?_) (by kernel_rfl) rfl (by kernel_rfl) (by kernel_rfl) (by kernel_rfl) (fun _ _ _ h => h) ⟨Or.inl ⟨by rfl, ?_⟩, fun _ _ _ => trivial⟩ (by with_reducible assumption) ?_; rotate_left; (focus (rintro w ⟨q1, q2, q3, q4⟩; go_simp; try with_reducible rfl))); simp only [Act.put, List.getElem_toArray, List.getElem_cons_succ, List.getElem_cons_zero, List.setIfInBounds_toArray, List.set_cons_zero, List.set_cons_succ]
  have hM1 := setM_mp (HM.out.alloc (.cells #[.int .u32 4] 31)).drew #[⟨.agg #[.int .i32 0, .int .i32 0], .slice none 0 0, 0⟩] 1
  have hne : W.heap.size ≠ r2 := by have := HM.out.lt; omega
  have hB := (Blk.new W 31 [.int .u32 4]).drew.keeps (setM_keeps (W.alloc (.cells #[.int .u32 4] 31)).drew r2 #[⟨.agg #[.int .i32 0, .int .i32 0], .slice none 0 0, 0⟩] 1) hne
  obtain ⟨W2, hW2⟩ : ∃ W2, W2 = setM (W.alloc (.cells #[.int .u32 4] 31)).drew r2 #[⟨.agg #[.int .i32 0, .int .i32 0], .slice none 0 0, 0⟩] 1 := ⟨_, rfl⟩
  have hk2 : Keeps (fun k => k = r2) W W2 := by rw [hW2]; exact ((Keeps.refl _ W).alloc _).drew.trans (setM_keeps _ _ _ _)
  rw [← hW2] at hM1 hB hS1 ⊢
  clear hW2 hA2
  refine anyHeld_one 9 (by kernel_rfl) rfl (by rfl) (fun K hK => ?_)
  refine oper_append_own (.tmp 56) (.tmp 58) 41 (by rfl) 0 31 i0 _ 1 4 Try.underlying41 hi0 hz0 hz1 hz2 rfl (by decide) (.slice none 0 0) 0 [] (by rfl) (World.ownsRow_nil _ _ _ _) ⟨W.heap.size, 0, none⟩ 1 1 [.int .u32 4] (by rfl) rfl (fun j u hj => by rcases j with _ | j <;> simp at hj; subst hj; simpa [Addr.add] using hB.cell 0) (by simp [Value.oneCell']) (by unfold maxLen; omega) (by omega) (Nat.zero_le _) ?_
  intro v' w1 hown hgrow hat
  obtain ⟨g', cap', rfl⟩ := ownsRow_succ hown
  have hk3 : Keeps (fun _ => False) W2 w1 := (Keeps.of_grown hgrow).mono (fun k _ h => by simp [Value.ownBlock] at h)
  have hM2 := hM1.keeps hk3 (fun h => h)
  have hk4 := hk2.trans (hk3.mono (fun _ _ h => h.elim))
  have hg : g' = W2.heap.size := by simpa [Value.ownBlock] using hat
  simp only [Nat.zero_add, List.nil_append] at hown ⊢
  have hst := st62 hM2 (.slice (some ⟨g', 0, none⟩) 1 cap')
  have HG := Lib.hid hg
  clear hg hat hgrow
  have hk5 := hk4.trans (setM_keeps w1 r2 #[⟨.agg #[.int .i32 0, .int .i32 0], .slice (some ⟨g', 0, none⟩) 1 cap', 0⟩] 1)
  refine hK _ _ (HSN.out _ hk4) ?_
  clear hK
  simp only [Act.put, List.getElem_toArray, List.getElem_cons_succ, List.getElem_cons_zero, List.setIfInBounds_toArray, List.set_cons_zero, List.set_cons_succ]
  refine anyHeld_one 11 (by kernel_rfl) rfl (by rfl) (fun K hK => ?_)
  go_simp
  refine hK _ _ (HSN.out _ hk5) ?_
  clear hK
  refine anyHeld_done (by kernel_rfl) ?_ _
  gi_wp2
  have hg := HG.out
  have hgr2 : g' ≠ r2 := by have := HM.out.lt; have := hk2.size; omega
  obtain ⟨q1, q2, q3⟩ := HI.out
  have hM3 := setM_mp hM2 #[⟨.agg #[.int .i32 0, .int .i32 0], .slice (some ⟨g', 0, none⟩) 1 cap', 0⟩] 1
  have hz3 : g' < w1.heap.size := (hown.lt g' (by simp [Value.ownBlock])).2
  refine ⟨fun k => k = r2 ∨ k = g', ⟨hk5.mono (fun k _ e => (q2 k).2 (.inl e)), fun k hk => ?_⟩, fun k hk => ?_, q1.trans hk5, .inr ⟨by simp, g', by have := q1.size; have := hk2.size; omega, ⟨cap', hM3, owns_keeps hown (setM_keeps w1 r2 _ _) (fun b hb e => hgr2 (by simp [Value.ownBlock] at hb; omega))⟩, fun _ => Iff.rfl⟩⟩
  · rcases hk with h | h
    · exact .inl ((q2 k).2 (.inl h))
    · exact .inr (by have := hk2.size; omega)
  · rcases hk with h | h
    · rw [h]; exact hM3.lt
    · rw [h]; simpa [setM] using hz3
end Gr
end Go.Proofs.Ytdbpfbokfmpgcaa
namespace Go.Proofs.Ytdbpfbokfmpgcaa
open Go.RowKit Go.Shelf
set_option linter.unusedVariables false
set_option linter.unusedSimpArgs false
attribute [local go_sem] Oper.semAt_some
namespace Gr
open Mem
/-- a grid that holds the one box -/
def PutG (w : World) (G r1 r2 r3 : Nat) : Prop := Blk w G 52 [.int .i64 10, .map (some r1), .map (some r2), .map (some r3)] ∧ Mp w r1 #[⟨.int .u32 4, .agg #[.int .i32 0, .int .i32 0, .int .i32 3, .int .i32 3], 0⟩] 1 ∧ (∃ g, Ent w r2 g) ∧ Mp w r3 #[] 0 ∧ r1 ≠ r2
set_option maxHeartbeats 4000000 in
set_option maxRecDepth 100000 in
theorem put_yes (w : World) (G r1 r2 r3 : Nat) (h : NewG w G r1 r2 r3) : Calls Try.prog 12 #[.pointer (some ⟨G, 0, none⟩), .int .u32 4, .agg #[.int .i32 0, .int .i32 0, .int .i32 3, .int .i32 3]] w fun e w' => e = .returned (.int .i64 0) ∧ PutG w' G r1 r2 r3 ∧ Keeps (fun k => k = r1 ∨ k = r2) w w' := by
  obtain ⟨hG, hM1, hM2, hM3, d12, d13, d23⟩ := h
  have k3 : Keeps (fun _ => False) w (((w.alloc (.cells #[.pointer (some ⟨G, 0, none⟩)] 23)).alloc (.cells #[.int .u32 4] 31)).alloc (.cells #[.int .i32 0, .int .i32 0, .int .i32 3, .int .i32 3] 35)) := by (repeat (first | exact Keeps.refl _ _ | refine Keeps.alloc ?_ _ | refine Keeps.drew ?_))
  have HT := Lib.hid (hG.keeps k3 (fun h => h))
  have b27 := ((Blk.new w 23 [.pointer (some ⟨G, 0, none⟩)]).alloc (.cells #[.int .u32 4] 31)).alloc (.cells #[.int .i32 0, .int .i32 0, .int .i32 3, .int .i32 3] 35)
  have b35 := (Blk.new (w.alloc (.cells #[.pointer (some ⟨G, 0, none⟩)] 23)) 31 [.int .u32 4]).alloc (.cells #[.int .i32 0, .int .i32 0, .int .i32 3, .int .i32 3] 35)
  have b37 := Blk.new ((w.alloc (.cells #[.pointer (some ⟨G, 0, none⟩)] 23)).alloc (.cells #[.int .u32 4] 31)) 35 [.int .i32 0, .int .i32 0, .int .i32 3, .int .i32 3]
  simp only [World.size_alloc] at b27 b35 b37
  have HB := Lib.hid (And.intro b27 (And.intro b35 b37))
  have cT := HT.out.cell
  have HK := Lib.hid k3
  have HM := Lib.hid (And.intro hM1 (And.intro hM2 hM3))
  have HD := Lib.hid (And.intro d12 (And.intro d13 d23))
  clear hG hM1 hM2 hM3 d12 d13 d23 b27 b35 b37 k3
  refine (callsIn_wide (n := 9)).1 ?_
  refine callsIn_of_wp_marks Try.func12 rfl trivial ?_ rfl
  simp only [Try.ntmps12, List.size_toArray, List.length_cons, List.length_nil, Nat.reduceAdd, Nat.reduceSub, Array.replicate_succ, Array.replicate_zero, List.push_toArray, List.append_toArray, List.nil_append, List.cons_append]
  gi_wp2_with (first
    | (refine ⟨trivial, ?_⟩; gi_at_call 14; refine (callsIn_wide.2 (there_yes _ G r1 r2 r3 HT.out)).mono ?_; rintro e w1 ⟨rfl, rfl⟩)
    | (refine ⟨trivial, ?_⟩; gi_at_call 32; refine (callsIn_wide.2 (right_yes _)).mono ?_; rintro e w4 ⟨rfl, hw⟩; have k4 : Keeps (fun _ => False) (((w.alloc (.cells #[.pointer (some ⟨G, 0, none⟩)] 23)).alloc (.cells #[.int .u32 4] 31)).alloc (.cells #[.int .i32 0, .int .i32 0, .int .i32 3, .int .i32 3] 35)) w4 := (by rw [← hw]; (repeat (first | exact Keeps.refl _ _ | refine Keeps.alloc ?_ _ | refine Keeps.drew ?_))); have hz4 : w.heap.size + 1 + 1 + 1 ≤ w4.heap.size := (by have := k4.size; simpa using this); clear hw))
  have HN := Lib.hid (show ∀ W', Keeps (fun k => k = r1 ∨ k = r2) w4 W' → Blk W' G 52 [.int .i64 10, .map (some r1), .map (some r2), .map (some r3)] ∧ Blk W' w.heap.size 23 [.pointer (some ⟨G, 0, none⟩)] ∧ Blk W' (w.heap.size + 1) 31 [.int .u32 4] ∧ Blk W' (w.heap.size + 1 + 1) 35 [.int .i32 0, .int .i32 0, .int .i32 3, .int .i32 3] from by
    intro W' hk
    have hn : ∀ k, (w.heap.size ≤ k ∨ k = G) → ¬ (k = r1 ∨ k = r2) := fun k hk he => by
      have h1 := HM.out.1.lt; have h2 := HM.out.2.1.lt
      rcases hk with hk | rfl
      · omega
      · have e1 := (HM.out.1.keeps HK.out (fun h => h)).ne HT.out; have e2 := (HM.out.2.1.keeps HK.out (fun h => h)).ne HT.out
        rcases he with he | he
        · exact e1 he
        · exact e2 he
    exact ⟨(HT.out.keeps k4 (fun h => h)).keeps hk (hn _ (.inr rfl)), (HB.out.1.keeps k4 (fun h => h)).keeps hk (hn _ (.inl (Nat.le_refl _))), (HB.out.2.1.keeps k4 (fun h => h)).keeps hk (hn _ (.inl (by omega))), (HB.out.2.2.keeps k4 (fun h => h)).keeps hk (hn _ (.inl (by omega)))⟩)
  have HSN := Lib.hid (show ∀ W', Keeps (fun k => k = r1 ∨ k = r2) w4 W' → (∀ i : Nat, W'.cell? ⟨w.heap.size, i, none⟩ = ([.pointer (some ⟨G, 0, none⟩)] : List Value)[i]?) ∧ (∀ i : Nat, W'.cell? ⟨w.heap.size + 1, i, none⟩ = ([.int .u32 4] : List Value)[i]?) ∧ (∀ i : Nat, W'.cell? ⟨w.heap.size + 1 + 1, i, none⟩ = ([.int .i32 0, .int .i32 0, .int .i32 3, .int .i32 3] : List Value)[i]?) ∧ (∀ i : Nat, W'.cell? ⟨G, i, none⟩ = ([.int .i64 10, .map (some r1), .map (some r2), .map (some r3)] : List Value)[i]?) from fun W' hk => by have hX := HN.out W' hk; exact ⟨hX.2.1.cell, hX.2.2.1.cell, hX.2.2.2.cell, hX.1.cell⟩)
  have HK4 := Lib.hid (HK.out.trans k4)
  clear k4 cT
  have hlk1 := lk61 (HM.out.1.keeps HK4.out (fun h => h)).drew
  have hlk2 := fun o => lk61 ((HM.out.1.keeps HK4.out (fun h => h)).alloc o).drew
  refine wpIn_wide.2 ?_
  go_region_held3 (fun W => (∀ i : Nat, W.cell? ⟨w.heap.size, i, none⟩ = ([.pointer (some ⟨G, 0, none⟩)] : List Value)[i]?) ∧ (∀ i : Nat, W.cell? ⟨w.heap.size + 1, i, none⟩ = ([.int .u32 4] : List Value)[i]?) ∧ (∀ i : Nat, W.cell? ⟨w.heap.size + 1 + 1, i, none⟩ = ([.int .i32 0, .int .i32 0, .int .i32 3, .int .i32 3] : List Value)[i]?) ∧ (∀ i : Nat, W.cell? ⟨G, i, none⟩ = ([.int .i64 10, .map (some r1), .map (some r2), .map (some r3)] : List Value)[i]?)) (first | with_reducible assumption | exact HSN.out _ (by (repeat (first | exact Keeps.refl _ _ | refine Keeps.alloc ?_ _ | refine Keeps.drew ?_)))) (first | fail)
  all_goals
    gi_wp2
    refine (show ∀ Wx, Keeps (fun _ => False) w4 Wx → Code.wpIn _ _ _ _ _ _ Wx from ?_) _ (by (repeat (first | exact Keeps.refl _ _ | refine Keeps.alloc ?_ _ | refine Keeps.drew ?_)))
    clear hlk1 hlk2
    intro Wx hk5
    have hM1 := HM.out.1.keeps (HK4.out.trans hk5) (fun h => h)
    have hup := up61 hM1.drew (.agg #[.int .i32 0, .int .i32 0, .int .i32 3, .int .i32 3])
    have hk6 : Keeps (fun k => k = r1 ∨ k = r2) w4 Wx := hk5.mono (fun _ _ h => h.elim)
    have HK6 := Lib.hid (hk6.drew.trans ((setM_keeps Wx.drew r1 #[⟨.int .u32 4, .agg #[.int .i32 0, .int .i32 0, .int .i32 3, .int .i32 3], 0⟩] 1).mono (fun _ _ h => .inl h)))
    have HM1 := Lib.hid (setM_mp hM1.drew #[⟨.int .u32 4, .agg #[.int .i32 0, .int .i32 0, .int .i32 3, .int .i32 3], 0⟩] 1)
    have HM2 := Lib.hid (((HM.out.2.1.keeps (HK4.out.trans hk5) (fun h => h)).drew).keeps (setM_keeps Wx.drew r1 #[⟨.int .u32 4, .agg #[.int .i32 0, .int .i32 0, .int .i32 3, .int .i32 3], 0⟩] 1) (fun e => HD.out.1 e.symm))
    have HM3 := Lib.hid (((HM.out.2.2.keeps (HK4.out.trans hk5) (fun h => h)).drew).keeps (setM_keeps Wx.drew r1 #[⟨.int .u32 4, .agg #[.int .i32 0, .int .i32 0, .int .i32 3, .int .i32 3], 0⟩] 1) (fun e => HD.out.2.1 e.symm))
    clear hM1 hk5
    refine wpIn_wide.2 ?_
    go_region_held3 (fun W => (∀ i : Nat, W.cell? ⟨w.heap.size, i, none⟩ = ([.pointer (some ⟨G, 0, none⟩)] : List Value)[i]?) ∧ (∀ i : Nat, W.cell? ⟨w.heap.size + 1, i, none⟩ = ([.int .u32 4] : List Value)[i]?) ∧ (∀ i : Nat, W.cell? ⟨w.heap.size + 1 + 1, i, none⟩ = ([.int .i32 0, .int .i32 0, .int .i32 3, .int .i32 3] : List Value)[i]?) ∧ (∀ i : Nat, W.cell? ⟨G, i, none⟩ = ([.int .i64 10, .map (some r1), .map (some r2), .map (some r3)] : List Value)[i]?)) (first | with_reducible assumption | exact HSN.out _ (by first | exact HK6.out | exact hk6.drew | (repeat (first | exact Keeps.refl _ _ | refine Keeps.alloc ?_ _ | refine Keeps.drew ?_)))) (first | fail)
    obtain ⟨Wy, hWy⟩ : ∃ Wy, Wy = setM Wx.drew r1 #[⟨.int .u32 4, .agg #[.int .i32 0, .int .i32 0, .int .i32 3, .int .i32 3], 0⟩] 1 := ⟨_, rfl⟩
    rw [← hWy] at HK6 HM1 HM2 HM3 ⊢
    clear hWy hup hk6
    gi_wp2
    refine wpIn_wide.2 ?_
    go_region_held3 (fun W => (∀ i : Nat, W.cell? ⟨w.heap.size, i, none⟩ = ([.pointer (some ⟨G, 0, none⟩)] : List Value)[i]?) ∧ (∀ i : Nat, W.cell? ⟨w.heap.size + 1, i, none⟩ = ([.int .u32 4] : List Value)[i]?) ∧ (∀ i : Nat, W.cell? ⟨w.heap.size + 1 + 1, i, none⟩ = ([.int .i32 0, .int .i32 0, .int .i32 3, .int .i32 3] : List Value)[i]?) ∧ (∀ i : Nat, W.cell? ⟨G, i, none⟩ = ([.int .i64 10, .map (some r1), .map (some r2), .map (some r3)] : List Value)[i]?)) (first | with_reducible assumption | exact HSN.out _ (by first | exact HK6.out.drew | exact HK7.out)) (first
      | (go_at_call 33; (with_reducible refine (count_yes _).mono ?_); rintro e w7 ⟨rfl, hk7⟩; have HK7 := Lib.hid (HK6.out.trans ((((Keeps.refl _ Wy).drew).trans hk7).mono (fun _ _ h => h.elim))); have HY7 := Lib.hid (((Keeps.refl _ Wy).drew).trans hk7); clear hk7))
    gi_wp2
    have HK8 := Lib.hid (show Keeps (fun k => k = r1 ∨ k = r2) w4 ((w7.drew.alloc (.cells #[.int .i32 0, .int .i32 0, .int .i32 3, .int .i32 3] 35)).alloc (.cells #[.int .i64 10] 2)) from (HK7.out.drew.alloc _).alloc _)
    refine wpIn_wide.2 ?_
    go_region_held3 (fun W => (∀ i : Nat, W.cell? ⟨w.heap.size, i, none⟩ = ([.pointer (some ⟨G, 0, none⟩)] : List Value)[i]?) ∧ (∀ i : Nat, W.cell? ⟨w.heap.size + 1, i, none⟩ = ([.int .u32 4] : List Value)[i]?) ∧ (∀ i : Nat, W.cell? ⟨w.heap.size + 1 + 1, i, none⟩ = ([.int .i32 0, .int .i32 0, .int .i32 3, .int .i32 3] : List Value)[i]?) ∧ (∀ i : Nat, W.cell? ⟨G, i, none⟩ = ([.int .i64 10, .map (some r1), .map (some r2), .map (some r3)] : List Value)[i]?)) (first | with_reducible assumption | exact HSN.out _ (by first | exact HK7.out.drew | exact HK8.out)) (first
      | (go_at_call 34; (with_reducible refine (cover_any _).mono ?_); rintro e w8 ⟨rfl, rfl⟩))
    gi_wp2
    refine (show ∀ Wz, Keeps (fun _ => False) w7 Wz → Blk Wz (w7.heap.size + 1) 2 [.int .i64 10] → Blk Wz w7.heap.size 35 [.int .i32 0, .int .i32 0, .int .i32 3, .int .i32 3] → Code.wpIn _ _ _ _ _ _ Wz from ?_) _ (by (repeat (first | exact Keeps.refl _ _ | refine Keeps.alloc ?_ _ | refine Keeps.drew ?_))) (by have := (Blk.new (w7.alloc (.cells #[.int .i32 0, .int .i32 0, .int .i32 3, .int .i32 3] 35)) 2 [.int .i64 10]).drew; simpa only [World.size_alloc] using this) ((Blk.new w7 35 [.int .i32 0, .int .i32 0, .int .i32 3, .int .i32 3]).alloc _).drew
    intro Wz kz hSB hBB
    have hkz := HK7.out.trans (kz.mono (T := fun k => k = r1 ∨ k = r2) (fun _ _ h => h.elim))
    have hyz := HY7.out.trans kz
    obtain ⟨hGz, b27, b35, b37⟩ := HN.out _ hkz
    have hM2 := HM2.out.keeps hyz (fun h => h)
    have HM1 := Lib.hid (HM1.out.keeps hyz (fun h => h))
    have HM3 := Lib.hid (HM3.out.keeps hyz (fun h => h))
    have hW := HK4.out.mono (T := fun k => k = r1 ∨ k = r2) (fun _ _ h => h.elim)
    have HKZ := Lib.hid (hW.trans hkz)
    refine wpIn_range (gf := 50) (lb := #[.pointer (some ⟨w7.heap.size + 1, 0, none⟩), .pointer (some ⟨w7.heap.size, 0, none⟩)]) (encs := fun c : Int × Int => #[.agg #[.int .i32 c.1, .int .i32 c.2]]) (xs := [(0, 0)]) (A := fun _ => True) rfl (enters_of Try.func50 (by kernel_rfl) rfl)
      (fun W1 hk => cover1_gives 8 _ _ W1 (hSB.keeps hk (fun h => h)) (hBB.keeps hk (fun h => h))) (fun _ => rfl)
      (PutI Wz r2) (fun _ _ _ _ => False) (puti_stab Wz r2) (fun _ _ _ _ _ _ h => h.elim)
      (fun k => k = r2) (fun k hk => by rw [hk]; exact hM2.lt) ⟨Keeps.refl _ _, .inl ⟨rfl, hM2, fun _ => Iff.rfl⟩⟩ (fun _ _ => trivial)
      (PutM Wz G r2 w.heap.size (w.heap.size + 1)) (putm_stab Wz G r2 _ _) ?assign ?body ?done ?stop
    case assign =>
      intro l pre x rest S W hxs hI hin hlt
      obtain ⟨rfl, rfl, rfl⟩ : pre = [] ∧ x = (0, 0) ∧ rest = [] := by
        rcases pre with _ | ⟨p, pre⟩
        · simp at hxs; exact ⟨rfl, hxs.1.symm, hxs.2⟩
        · simp at hxs
      obtain ⟨h1, (⟨_, h2, h3⟩ | ⟨h2, _⟩)⟩ := hI
      · gi_wp2
        refine ⟨fun k => k = r2 ∨ k = W.heap.size, ⟨(Keeps.refl S W).alloc _, fun k hk => ?_⟩, fun k hk => ?_, W.heap.size, ⟨rfl, rfl, by simp⟩, Blk.new W 65 [.int .i32 0, .int .i32 0], h1.alloc _, fun _ => h2.alloc _, fun _ => Iff.rfl⟩
        · rcases hk with h | h
          · exact .inl ((h3 k).2 h)
          · exact .inr (by omega)
        · have := h2.lt
          simp
          rcases hk with h | h <;> omega
      · exact absurd rfl h2
    case body =>
      intro l pre x rest a1 S W hxs hM hin hlt
      obtain ⟨rfl, rfl, rfl⟩ : pre = [] ∧ x = (0, 0) ∧ rest = [] := by
        rcases pre with _ | ⟨p, pre⟩
        · simp at hxs; exact ⟨rfl, hxs.1.symm, hxs.2⟩
        · simp at hxs
      exact put_body l Wz G r1 r2 r3 _ _ hGz b27 b35 hM2 S W a1 hM hin
    case done =>
      rintro D S' W' hD hnD hf hin ⟨h1, (⟨h2, _⟩ | ⟨_, g, hg, ⟨cap, h3, h4⟩, h5⟩)⟩ hDD
      · cases h2
      · have e1 := hM2.ne hGz
        have HE := Lib.hid (And.intro hGz e1)
        have HH := Lib.hid (And.intro h1 (And.intro h3 (And.intro h4 h5)))
        have kp := keeps_putObj W' D (.deferred none)
        have HP := Lib.hid kp
        clear kp h1 h3 h4 h5 hGz b27 b35 b37 hM2 hkz hyz hW hSB hBB kz e1
        gi_wp2
        refine ⟨by simp, .inl ⟨_, _, rfl, run_takeDeferred hDD, ?_⟩⟩
        obtain ⟨h1, h3, h4, h5⟩ := HH.out
        obtain ⟨hGz, e1⟩ := HE.out
        have hz := hGz.lt
        have l1 := HM1.out.lt
        have l3 := HM3.out.lt
        refine ⟨_, results_tmp rfl _ _ _, rfl, ⟨(hGz.keeps h1 e1).keeps HP.out (fun e => by omega), ((HM1.out.keeps h1 HD.out.1)).keeps HP.out (fun e => by omega), ⟨g, cap, h3.keeps HP.out (fun e => hnD (e ▸ (h5 _).2 (.inl rfl))), owns_keeps h4 HP.out (fun b hb e => hnD ((h5 _).2 (.inr (by simp [Value.ownBlock] at hb; omega))))⟩, (HM3.out.keeps h1 (fun e => HD.out.2.2 e.symm)).keeps HP.out (fun e => by omega), HD.out.1⟩, ?_⟩
        have hsz := HKZ.out.size
        exact ((HKZ.out).then h1 (fun i hi e => .inr e)).then HP.out (fun i hi e => by omega)
    case stop =>
      intro D c0 pre S' W' hD hnD hf hin hpre hx
      exact hx.elim
end Gr
end Go.Proofs.Ytdbpfbokfmpgcaa
namespace Go.Proofs.Ytdbpfbokfmpgcaa
open Go.RowKit Go.Shelf
set_option linter.unusedVariables false
set_option linter.unusedSimpArgs false
attribute [local go_sem] Oper.semAt_some
namespace Gr
open Mem
theorem frames36 {P : Act → Prop} (hP : ∀ u0 u1 u2 u3 u4 u5 u6 u7 u8 u9 u10 u11 u12 u13 u14 u15 u16 u17 u18 u19 u20 u21 u22 u23 u24 u25 u26 u27 u28 u29 u30 u31 u32 u33 u34 u35 : Value, P ⟨#[u0, u1, u2, u3, u4, u5, u6, u7, u8, u9, u10, u11, u12, u13, u14, u15, u16, u17, u18, u19, u20, u21, u22, u23, u24, u25, u26, u27, u28, u29, u30, u31, u32, u33, u34, u35], []⟩) : ∀ a : Act, a.tmps.size = 36 → a.defers = [] → P a := by
  rintro ⟨⟨t⟩, d⟩ h1 h2
  simp only [List.size_toArray] at h1 h2
  subst h2
  have h := unroll t 36 h1
  have e : (List.range 36).map (fun i => t.getD i undef) = [t.getD 0 undef, t.getD 1 undef, t.getD 2 undef, t.getD 3 undef, t.getD 4 undef, t.getD 5 undef, t.getD 6 undef, t.getD 7 undef, t.getD 8 undef, t.getD 9 undef, t.getD 10 undef, t.getD 11 undef, t.getD 12 undef, t.getD 13 undef, t.getD 14 undef, t.getD 15 undef, t.getD 16 undef, t.getD 17 undef, t.getD 18 undef, t.getD 19 undef, t.getD 20 undef, t.getD 21 undef, t.getD 22 undef, t.getD 23 undef, t.getD 24 undef, t.getD 25 undef, t.getD 26 undef, t.getD 27 undef, t.getD 28 undef, t.getD 29 undef, t.getD 30 undef, t.getD 31 undef, t.getD 32 undef, t.getD 33 undef, t.getD 34 undef, t.getD 35 undef] := rfl
  exact Eq.mpr (congrArg (fun l : List Value => P ⟨⟨l⟩, []⟩) (h.trans e)) (hP (t.getD 0 undef) (t.getD 1 undef) (t.getD 2 undef) (t.getD 3 undef) (t.getD 4 undef) (t.getD 5 undef) (t.getD 6 undef) (t.getD 7 undef) (t.getD 8 undef) (t.getD 9 undef) (t.getD 10 undef) (t.getD 11 undef) (t.getD 12 undef) (t.getD 13 undef) (t.getD 14 undef) (t.getD 15 undef) (t.getD 16 undef) (t.getD 17 undef) (t.getD 18 undef) (t.getD 19 undef) (t.getD 20 undef) (t.getD 21 undef) (t.getD 22 undef) (t.getD 23 undef) (t.getD 24 undef) (t.getD 25 undef) (t.getD 26 undef) (t.getD 27 undef) (t.getD 28 undef) (t.getD 29 undef) (t.getD 30 undef) (t.getD 31 undef) (t.getD 32 undef) (t.getD 33 undef) (t.getD 34 undef) (t.getD 35 undef))
noncomputable def toldBody : Code := (rbods (Try.f17.body.getD .skip)).getD 0 .skip
def u32v (V : List Nat) : List Value := V.map fun x : Nat => .int .u32 (x : Int)
def ToldI (w : World) (B : Nat) (V : List Nat) (pre : List (Int × Int)) (S : Nat → Prop) (W : World) : Prop :=
  Below w.heap.size w W ∧ ((pre = [] ∧ Blk W B 41 [.slice none 0 0] ∧ ∀ k, S k ↔ k = B) ∨
    (pre ≠ [] ∧ ∃ a cp, Blk W B 41 [.slice a V.length cp] ∧ W.ownsRow w.heap.size 31 1 (.slice a V.length cp) V.length (u32v V) ∧ ∀ k, S k ↔ k = B ∨ (Value.slice a V.length cp).ownBlock = some k))
theorem below_keeps {W0 W W' : World} {T : Nat → Prop} {b : Nat} (h : Below W0.heap.size W0 W) (hk : Keeps T W W') (hb : W0.heap.size ≤ b) (ht : ∀ k, T k → b ≤ k) : Below W0.heap.size W0 W' :=
  h.trans ⟨hk.os, hk.tape, hk.output, hk.size, fun k hk' => hk.block k (by have := h.size; omega) (fun h => by have := ht _ h; omega)⟩
theorem toldi_stab (w : World) (B : Nat) (V : List Nat) (b : Nat) (hb : w.heap.size ≤ b) : Stab b (ToldI w B V) := by
  intro pre S T W W' ⟨h1, h2⟩ hin hk hd ht
  refine ⟨below_keeps h1 hk hb ht, ?_⟩
  rcases h2 with ⟨rfl, h3, h4⟩ | ⟨hp, a, cp, h3, h4, h5⟩
  · exact .inl ⟨rfl, h3.keeps hk (hd _ ((h4 _).2 rfl)), h4⟩
  · exact .inr ⟨hp, a, cp, h3.keeps hk (hd _ ((h5 _).2 (.inl rfl))), owns_keeps h4 hk (fun k hk' => hd _ ((h5 _).2 (.inr hk'))), h5⟩
def ToldM (w : World) (B27 B : Nat) (s : List (Int × Int) × (Int × Int) × Act) (S : Nat → Prop) (W : World) : Prop :=
  ∃ X, Fr s.2.2 36 [(2, .pointer (some ⟨B27, 0, none⟩)), (5, .pointer (some ⟨B, 0, none⟩)), (7, .pointer (some ⟨X, 0, none⟩))] ∧ Blk W X 65 [.int .i32 s.2.1.1, .int .i32 s.2.1.2] ∧ Below w.heap.size w W ∧ (s.1 = [] → Blk W B 41 [.slice none 0 0]) ∧ (∀ k, S k ↔ k = B ∨ k = X)
theorem toldm_stab (w : World) (B27 B b : Nat) (hb : w.heap.size ≤ b) : Stab b (ToldM w B27 B) := by
  intro s S T W W' h hin hk hd ht
  obtain ⟨X, hF, h1, h2, h3, h4⟩ := h
  exact ⟨X, hF, h1.keeps hk (hd _ ((h4 _).2 (.inr rfl))), below_keeps h2 hk hb ht, fun e => (h3 e).keeps hk (hd _ ((h4 _).2 (.inl rfl))), h4⟩
set_option maxHeartbeats 4000000 in
set_option maxRecDepth 100000 in
theorem told_body (l : Nat) (w : World) (G r1 r2 r3 g cap B27 B : Nat) (c : Int) (vv : Value) (V : List Nat) (hG : Blk w G 52 [.int .i64 10, .map (some r1), .map (some r2), .map (some r3)]) (b27 : Blk w B27 23 [.pointer (some ⟨G, 0, none⟩)]) (hM0 : Mp w r2 #[⟨.agg #[.int .i32 0, .int .i32 0], .slice (some ⟨g, 0, none⟩) 1 cap, 0⟩] 1) (hO0 : w.ownsRow 0 31 1 (.slice (some ⟨g, 0, none⟩) 1 cap) 1 [.int .u32 4]) (hBw : w.heap.size ≤ B)
    (hlk : ∀ W : World, Mp W r2 #[⟨.agg #[.int .i32 0, .int .i32 0], .slice (some ⟨g, 0, none⟩) 1 cap, 0⟩] 1 → (Instr.lookup 49 (.map (some r2)) (.agg #[.int .i32 c, .int .i32 0]) false).run Try.prog W = .ok vv W)
    (hvv : (vv = .slice (some ⟨g, 0, none⟩) 1 cap ∧ V = [4]) ∨ (vv = .slice none 0 0 ∧ V = []))
    (S : Nat → Prop) (W : World) (a : Act) (hM : ToldM w B27 B ([], (c, 0), a) S W) (hin : Inb S W) : toldBody.wpIn (Fence.wide.inRound l) 7 Try.prog (Mem.Left (ToldI w B V) (fun _ _ _ _ => False) ([] ++ [((c : Int), (0 : Int))]) S W) a W := by
  obtain ⟨X, hF, hX, hK, hB, hS⟩ := hM
  have hB := hB rfl
  simp only at hF hX
  revert hF
  refine fun hF => frames36 (P := fun a => Fr a 36 [(2, .pointer (some ⟨B27, 0, none⟩)), (5, .pointer (some ⟨B, 0, none⟩)), (7, .pointer (some ⟨X, 0, none⟩))] → toldBody.wpIn (Fence.wide.inRound l) 7 Try.prog (Mem.Left (ToldI w B V) (fun _ _ _ _ => False) ([] ++ [((c : Int), (0 : Int))]) S W) a W) ?_ a hF.1 hF.2.1 hF
  intro u0 u1 u2 u3 u4 u5 u6 u7 u8 u9 u10 u11 u12 u13 u14 u15 u16 u17 u18 u19 u20 u21 u22 u23 u24 u25 u26 u27 u28 u29 u30 u31 u32 u33 u34 u35 hF
  obtain rfl : u2 = .pointer (some ⟨B27, 0, none⟩) := hF.at_ 2 _ (by simp)
  obtain rfl : u5 = .pointer (some ⟨B, 0, none⟩) := hF.at_ 5 _ (by simp)
  obtain rfl : u7 = .pointer (some ⟨X, 0, none⟩) := hF.at_ 7 _ (by simp)
  clear hF
  have kW : Keeps (fun k => w.heap.size ≤ k) w W := Keeps.of_below hK
  have n1 : ¬ w.heap.size ≤ G := by have := hG.lt; omega
  have n2 : ¬ w.heap.size ≤ B27 := by have := b27.lt; omega
  have n3 : ¬ w.heap.size ≤ r2 := by have := hM0.lt; omega
  have hg := hO0.lt g (by simp [Value.ownBlock])
  have n4 : ¬ w.heap.size ≤ g := by omega
  have hBX : B ≠ X := hB.ne_ hX (by decide)
  have hO1 := owns_keeps hO0 kW (fun b hb e => n4 (by simp [Value.ownBlock] at hb; omega))
  have HSN := Lib.hid (show ∀ W', Keeps (fun k => k = B) W W' → (∀ i : Nat, W'.cell? ⟨B27, i, none⟩ = ([.pointer (some ⟨G, 0, none⟩)] : List Value)[i]?) ∧ (∀ i : Nat, W'.cell? ⟨G, i, none⟩ = ([.int .i64 10, .map (some r1), .map (some r2), .map (some r3)] : List Value)[i]?) ∧ (∀ i : Nat, W'.cell? ⟨X, i, none⟩ = ([.int .i32 c, .int .i32 0] : List Value)[i]?) ∧ Mp W' r2 #[⟨.agg #[.int .i32 0, .int .i32 0], .slice (some ⟨g, 0, none⟩) 1 cap, 0⟩] 1 from fun W' hk => ⟨((b27.keeps kW n2).keeps hk (fun e => n2 (by omega))).cell, ((hG.keeps kW n1).keeps hk (fun e => n1 (by omega))).cell, (hX.keeps hk (fun e => hBX e.symm)).cell, (hM0.keeps kW n3).keeps hk (fun e => n3 (by omega))⟩)
  have hS0 : (∀ i : Nat, W.drew.cell? ⟨B27, i, none⟩ = ([.pointer (some ⟨G, 0, none⟩)] : List Value)[i]?) ∧ (∀ i : Nat, W.drew.cell? ⟨G, i, none⟩ = ([.int .i64 10, .map (some r1), .map (some r2), .map (some r3)] : List Value)[i]?) ∧ (∀ i : Nat, W.drew.cell? ⟨X, i, none⟩ = ([.int .i32 c, .int .i32 0] : List Value)[i]?) ∧ Mp W.drew r2 #[⟨.agg #[.int .i32 0, .int .i32 0], .slice (some ⟨g, 0, none⟩) 1 cap, 0⟩] 1 := HSN.out _ (Keeps.refl _ W).drew
  obtain ⟨i0, hi0, hz0, hz1, hz2⟩ := info_parts u32Info
  have HI := Lib.hid (And.intro hK (And.intro hS (And.intro hin (And.intro hB (And.intro hO1 (And.intro hBw hBX))))))
  have cB : W.drew.cell? ⟨B, 0, none⟩ = some (.slice none 0 0) := by have := hB.cell 0; simpa using this
  clear hK hS hin hG b27 hM0 n1 n2 n3 n4 hX hB hO1 hO0 kW hg hBX hBw
  conv => arg 4; whnf
  gi_wp2
  refine region_heldIn (fun W' => (∀ i : Nat, W'.cell? ⟨B27, i, none⟩ = ([.pointer (some ⟨G, 0, none⟩)] : List Value)[i]?) ∧ (∀ i : Nat, W'.cell? ⟨G, i, none⟩ = ([.int .i64 10, .map (some r1), .map (some r2), .map (some r3)] : List Value)[i]?) ∧ (∀ i : Nat, W'.cell? ⟨X, i, none⟩ = ([.int .i32 c, .int .i32 0] : List Value)[i]?) ∧ Mp W' r2 #[⟨.agg #[.int .i32 0, .int .i32 0], .slice (some ⟨g, 0, none⟩) 1 cap, 0⟩] 1) (by kernel_rfl) ?_
  (refine anyHeld_take 1 (v := ?_) (by kernel_rfl) rfl (by kernel_rfl) (by kernel_rfl) (by kernel_rfl) (fun _ _ _ h => h) ⟨Or.inl ⟨by rfl, ?_⟩, fun _ _ _ => trivial⟩ (by with_reducible assumption) ?_; rotate_left; (focus (rintro w ⟨q1, q2, q3, q5⟩; have q6 := hlk _ q5; clear q5; go_simp; try with_reducible rfl))); simp only [Act.put, List.getElem_toArray, List.getElem_cons_succ, List.getElem_cons_zero, List.setIfInBounds_toArray, List.set_cons_zero, List.set_cons_succ]
  (refine anyHeld_take 2 (v := ?_) (by kernel_rfl) rfl (by kernel_rfl) (by kernel_rfl) (by kernel_rfl) (fun _ _ _ h => h) ⟨Or.inl ⟨by rfl, ?_⟩, fun _ _ _ => trivial⟩ (by with_reducible assumption) ?_; rotate_left; (focus (rintro w ⟨q1, q2, q3, q5⟩; have q6 := hlk _ q5; clear q5; go_simp; try with_reducible rfl))); simp only [Act.put, List.getElem_toArray, List.getElem_cons_succ, List.getElem_cons_zero, List.setIfInBounds_toArray, List.set_cons_zero, List.set_cons_succ]
  (refine anyHeld_take 3 (v := ?_) (by kernel_rfl) rfl (by kernel_rfl) (by kernel_rfl) (by kernel_rfl) (fun _ _ _ h => h) ⟨Or.inl ⟨by rfl, ?_⟩, fun _ _ _ => trivial⟩ (by with_reducible assumption) ?_; rotate_left; (focus (rintro w ⟨q1, q2, q3, q5⟩; have q6 := hlk _ q5; clear q5; go_simp; try with_reducible rfl))); simp only [Act.put, List.getElem_toArray, List.getElem_cons_succ, List.getElem_cons_zero, List.setIfInBounds_toArray, List.set_cons_zero, List.set_cons_succ]
  (refine anyHeld_take 4 (v := ?_) (by kernel_rfl) rfl (by kernel_rfl) (by kernel_rfl) (by kernel_rfl) (fun _ _ _ h => h) ⟨Or.inl ⟨by rfl, ?_⟩, fun _ _ _ => trivial⟩ (by with_reducible assumption) ?_; rotate_left; (focus (rintro w ⟨q1, q2, q3, q5⟩; have q6 := hlk _ q5; clear q5; go_simp; try with_reducible rfl))); simp only [Act.put, List.getElem_toArray, List.getElem_cons_succ, List.getElem_cons_zero, List.setIfInBounds_toArray, List.set_cons_zero, List.set_cons_succ]
  (refine anyHeld_take 5 (v := ?_) (by kernel_rfl) rfl (by kernel_rfl) (by kernel_rfl) (by kernel_rfl) (fun _ _ _ h => h) ⟨Or.inl ⟨by rfl, ?_⟩, fun _ _ _ => trivial⟩ (by with_reducible assumption) ?_; rotate_left; (focus (rintro w ⟨q1, q2, q3, q5⟩; have q6 := hlk _ q5; clear q5; go_simp; try with_reducible rfl))); simp only [Act.put, List.getElem_toArray, List.getElem_cons_succ, List.getElem_cons_zero, List.setIfInBounds_toArray, List.set_cons_zero, List.set_cons_succ]
  (refine anyHeld_take 6 (v := ?_) (by kernel_rfl) rfl (by kernel_rfl) (by kernel_rfl) (by kernel_rfl) (fun _ _ _ h => h) ⟨Or.inl ⟨by rfl, ?_⟩, fun _ _ _ => trivial⟩ (by with_reducible assumption) ?_; rotate_left; (focus (rintro w ⟨q1, q2, q3, q5⟩; have q6 := hlk _ q5; clear q5; go_simp; try with_reducible rfl))); simp only [Act.put, List.getElem_toArray, List.getElem_cons_succ, List.getElem_cons_zero, List.setIfInBounds_toArray, List.set_cons_zero, List.set_cons_succ]
  refine anyHeld_one 0 (by kernel_rfl) rfl (by rfl) (fun K hK => ?_)
  go_simp
  refine hK _ _ hS0 ?_
  clear hK
  try simp only [Act.put, List.getElem_toArray, List.getElem_cons_succ, List.getElem_cons_zero, List.setIfInBounds_toArray, List.set_cons_zero, List.set_cons_succ]
  refine anyHeld_one 7 (by kernel_rfl) rfl (by rfl) (fun K hK => ?_)
  rcases hvv with ⟨rfl, rfl⟩ | ⟨rfl, rfl⟩
  · refine oper_append_own (.tmp 23) (.tmp 29) 41 (by rfl) w.heap.size 31 i0 _ 1 4 Try.underlying41 hi0 hz0 hz1 hz2 rfl (by decide) (.slice none 0 0) 0 [] (by rfl) (World.ownsRow_nil _ _ _ _) ⟨g, 0, none⟩ 1 cap [.int .u32 4] (by rfl) rfl (fun j u hj => by rcases j with _ | j <;> simp at hj; subst hj; have := HI.out.2.2.2.2.1.cellAt 0 (by omega); simpa [Addr.add] using this) (by simp [Value.oneCell']) (by unfold maxLen; omega) (by omega) HI.out.1.size ?_
    intro v' w1 hown hgrow hat
    obtain ⟨g', cap', rfl⟩ := ownsRow_succ hown
    have hk3 : Keeps (fun _ => False) W w1 := (Keeps.refl _ W).drew.trans ((Keeps.of_grown hgrow).mono (fun k _ h => by simp [Value.ownBlock] at h))
    have hg : g' = W.heap.size := by simpa [Value.ownBlock] using hat
    simp only [Nat.zero_add, List.nil_append] at hown ⊢
    have HG := Lib.hid hg
    have HO := Lib.hid hown
    have HK3 := Lib.hid hk3
    have fB := (HI.out.2.2.2.1.keeps hk3 (fun h => h)).frozen 0
    refine hK _ _ (HSN.out _ (hk3.mono (fun _ _ h => h.elim))) ?_
    clear hK hg hat hgrow hown hk3 cB
    try simp only [Act.put, List.getElem_toArray, List.getElem_cons_succ, List.getElem_cons_zero, List.setIfInBounds_toArray, List.set_cons_zero, List.set_cons_succ]
    have hS5 := HSN.out (w1.setCell ⟨B, 0, none⟩ (.slice (some ⟨g', 0, none⟩) 1 cap')) (Keeps.setCell (S := fun k => k = B) (HK3.out.mono (fun _ _ h => h.elim)) (p := ⟨B, 0, none⟩) (fun _ => rfl) _)
    have cB := (HI.out.2.2.2.1.keeps HK3.out (fun h => h)).cell 0
    simp only [List.getElem?_cons_zero] at cB
    refine anyHeld_one 8 (by kernel_rfl) rfl (by rfl) (fun K hK => ?_)
    go_simp
    refine hK _ _ hS5 ?_
    clear hK
    refine anyHeld_done (by kernel_rfl) ?_ _
    gi_wp2
    obtain ⟨hB, hS, hin, hBl, hO1, hBw, hBX⟩ := HI.out
    have hk3 := HK3.out
    have hown := HO.out
    have hg := HG.out
    have hk5 : Keeps (fun k => k = B) W (w1.setCell ⟨B, 0, none⟩ (.slice (some ⟨g', 0, none⟩) 1 cap')) := Keeps.setCell (S := fun k => k = B) (hk3.mono (fun _ _ h => h.elim)) (p := ⟨B, 0, none⟩) (fun _ => rfl) _
    have hlB := hBl.lt
    have hb5 := (hBl.keeps hk3 (fun h => h)).set_ 0 (.slice (some ⟨g', 0, none⟩) 1 cap')
    have hz3 := (hown.lt g' (by simp [Value.ownBlock])).2
    have hz5 := hk5.size
    refine ⟨fun k => k = B ∨ k = g', ⟨hk5.mono (fun k _ e => (hS k).2 (.inl e)), fun k hk => ?_⟩, fun k hk => ?_, below_keeps hB hk5 hBw (fun k e => by omega), .inr ⟨by simp, some ⟨g', 0, none⟩, cap', hb5, owns_keeps hown ((Keeps.refl (fun k => k = B) w1).setCell (p := ⟨B, 0, none⟩) (fun _ => rfl) _) (fun b hb e => by simp [Value.ownBlock] at hb; omega), fun k => by simp [Value.ownBlock, eq_comm]⟩⟩
    · rcases hk with h | h
      · exact .inl ((hS k).2 (.inl h))
      · exact .inr (by omega)
    · rcases hk with h | h
      · omega
      · rw [h]; simpa [World.setCell] using hz3
  · have hr := run_append_owned_none (P := Try.prog) (w := W.drew) w.heap.size 41 41 31 i0 1 Try.underlying41 hi0 (.slice none 0 0) 0 [] (World.ownsRow_nil _ _ _ _)
    unfold Oper.wpIn
    refine ⟨by simp [Oper.about, resolve, Target.leads, Sem.run_pure], ?_⟩
    rw [Oper.semAt_plain _ _ _ (by intro c hc'; cases hc')]
    simp [execOp, resolve, invoke, builtin, Act.eval, hr, Result.andThen]
    refine hK _ _ hS0 ?_
    clear hK hr
    have fB := HI.out.2.2.2.1.drew.frozen 0
    try simp only [Act.put, List.getElem_toArray, List.getElem_cons_succ, List.getElem_cons_zero, List.setIfInBounds_toArray, List.set_cons_zero, List.set_cons_succ]
    have hS5 := HSN.out (W.drew.setCell ⟨B, 0, none⟩ (.slice none 0 0)) (Keeps.setCell (S := fun k => k = B) (Keeps.refl _ W).drew (p := ⟨B, 0, none⟩) (fun _ => rfl) _)
    refine anyHeld_one 8 (by kernel_rfl) rfl (by rfl) (fun K hK => ?_)
    go_simp
    refine hK _ _ hS5 ?_
    clear hK
    refine anyHeld_done (by kernel_rfl) ?_ _
    gi_wp2
    obtain ⟨hB, hS, hin, hBl, hO1, hBw, hBX⟩ := HI.out
    have hk5 : Keeps (fun k => k = B) W (W.drew.setCell ⟨B, 0, none⟩ (.slice none 0 0)) := Keeps.setCell (S := fun k => k = B) (Keeps.refl _ W).drew (p := ⟨B, 0, none⟩) (fun _ => rfl) _
    have hlB := hBl.lt
    have hb5 := hBl.drew.set_ 0 (.slice none 0 0)
    have hz5 := hk5.size
    refine ⟨fun k => k = B, ⟨hk5.mono (fun k _ e => (hS k).2 (.inl e)), fun k hk => .inl ((hS k).2 (.inl hk))⟩, fun k hk => by have hk' : k = B := hk; rw [hk']; simpa [World.setCell] using hlB, below_keeps hB hk5 hBw (fun k e => by omega), .inr ⟨by simp, none, 0, hb5, World.ownsRow_nil _ _ _ _, fun k => by simp [Value.ownBlock]⟩⟩
end Gr
end Go.Proofs.Ytdbpfbokfmpgcaa
namespace Go.Proofs.Ytdbpfbokfmpgcaa
open Go.RowKit Go.Shelf
set_option linter.unusedVariables false
set_option linter.unusedSimpArgs false
attribute [local go_sem] Oper.semAt_some
namespace Gr
open Mem
/-- the values that At gives -/
def Vals (base : Nat) (w : World) (VB : Nat) (V : List Nat) : Prop := base ≤ VB ∧ ∃ a cp, Blk w VB 41 [.slice a V.length cp] ∧ w.ownsRow base 31 1 (.slice a V.length cp) V.length (u32v V)
theorem own_mono {w : World} {base base' : Nat} {e : TypeId} {size : Nat} {v : Value} {n : Nat} {xs : List Value} (h : w.ownsRow base e size v n xs) (hb : base' ≤ base) : w.ownsRow base' e size v n xs := by
  refine ⟨h.1, ?_⟩
  rcases h.2 with h2 | ⟨g, cap, cur, h1, h2, h3⟩
  · exact .inl h2
  · exact .inr ⟨g, cap, cur, h1, Nat.le_trans hb h2, h3⟩
set_option maxHeartbeats 4000000 in
set_option maxRecDepth 100000 in
theorem told_at (w : World) (G r1 r2 r3 g cap SB PB QB : Nat) (c : Int) (vv : Value) (V : List Nat) (hV : V.length ≤ 1) (hG : Blk w G 52 [.int .i64 10, .map (some r1), .map (some r2), .map (some r3)]) (hM3 : Mp w r3 #[] 0) (hM0 : Mp w r2 #[⟨.agg #[.int .i32 0, .int .i32 0], .slice (some ⟨g, 0, none⟩) 1 cap, 0⟩] 1) (hO0 : w.ownsRow 0 31 1 (.slice (some ⟨g, 0, none⟩) 1 cap) 1 [.int .u32 4])
    (hlk : ∀ W : World, Mp W r2 #[⟨.agg #[.int .i32 0, .int .i32 0], .slice (some ⟨g, 0, none⟩) 1 cap, 0⟩] 1 → (Instr.lookup 49 (.map (some r2)) (.agg #[.int .i32 c, .int .i32 0]) false).run Try.prog W = .ok vv W)
    (hvv : (vv = .slice (some ⟨g, 0, none⟩) 1 cap ∧ V = [4]) ∨ (vv = .slice none 0 0 ∧ V = []))
    (hgv : ∀ W1, Keeps (fun _ => False) w W1 → Gives Try.prog 8 38 #[.pointer (some ⟨SB, 0, none⟩), .pointer (some ⟨PB, 0, none⟩), .pointer (some ⟨QB, 0, none⟩)] (fun c : Int × Int => #[.agg #[.int .i32 c.1, .int .i32 c.2]]) [(c, 0)] W1 (fun _ => True)) :
    Calls Try.prog 17 #[.pointer (some ⟨G, 0, none⟩), .func (.func 38) #[] #[.pointer (some ⟨SB, 0, none⟩), .pointer (some ⟨PB, 0, none⟩), .pointer (some ⟨QB, 0, none⟩)]] w fun e w' => ∃ VB, e = .returned (.func (.func 35) #[] #[.pointer (some ⟨VB, 0, none⟩)]) ∧ Keeps (fun _ => False) w w' ∧ Vals w.heap.size w' VB V := by
  have hm2 : Mp ((w.alloc (.cells #[.pointer (some ⟨G, 0, none⟩)] 23)).alloc (.cells #[.slice none 0 0] 41)) r3 #[] 0 := (hM3.alloc _).alloc _
  have hrg := run_range_map (P := Try.prog) ((w.alloc (.cells #[.pointer (some ⟨G, 0, none⟩)] 23)).alloc (.cells #[.slice none 0 0] 41)) 50 _ _ r3 #[] 0 Try.underlying50 hm2
  have hnx : ∀ ty, (Instr.next (.pointer (some ⟨w.heap.size + 1 + 1, 0, none⟩)) false ty).run Try.prog (((w.alloc (.cells #[.pointer (some ⟨G, 0, none⟩)] 23)).alloc (.cells #[.slice none 0 0] 41)).alloc (.mapIter (some r3) 0 #[] 0)) = .ok (.tuple #[.bool false]) (((w.alloc (.cells #[.pointer (some ⟨G, 0, none⟩)] 23)).alloc (.cells #[.slice none 0 0] 41)).alloc (.mapIter (some r3) 0 #[] 0)) := fun ty => by
    have hr : ((((w.alloc (.cells #[.pointer (some ⟨G, 0, none⟩)] 23)).alloc (.cells #[.slice none 0 0] 41)).alloc (.mapIter (some r3) 0 #[] 0))).heap[w.heap.size + 1 + 1]? = some (.mapIter (some r3) 0 #[] 0) := by have := heap_alloc_new ((w.alloc (.cells #[.pointer (some ⟨G, 0, none⟩)] 23)).alloc (.cells #[.slice none 0 0] 41)) (.mapIter (some r3) 0 #[] 0); simpa only [World.size_alloc] using this
    rcases run_next_at (P := Try.prog) (((w.alloc (.cells #[.pointer (some ⟨G, 0, none⟩)] 23)).alloc (.cells #[.slice none 0 0] 41)).alloc (.mapIter (some r3) 0 #[] 0)) ty (w.heap.size + 1 + 1) r3 0 0 #[] #[] 0 hr (hm2.alloc _) (by simp) (Nat.le_refl _) with h | ⟨e, he, _⟩
    · exact h.2
    · simp [leftOf] at he
  simp only [World.size_alloc] at hrg
  have cG : ∀ i : Nat, (((w.alloc (.cells #[.pointer (some ⟨G, 0, none⟩)] 23)).alloc (.cells #[.slice none 0 0] 41))).cell? ⟨G, i, none⟩ = ([.int .i64 10, .map (some r1), .map (some r2), .map (some r3)] : List Value)[i]? := ((hG.alloc _).alloc _).cell
  have bB := (Blk.new (w.alloc (.cells #[.pointer (some ⟨G, 0, none⟩)] 23)) 41 [.slice none 0 0]).alloc (.mapIter (some r3) 0 #[] 0)
  simp only [World.size_alloc] at bB
  have HG := Lib.hid (hG.alloc (.cells #[.pointer (some ⟨G, 0, none⟩)] 23))
  have H27 := Lib.hid (Blk.new w 23 [.pointer (some ⟨G, 0, none⟩)])
  have HM := Lib.hid (hM0.alloc (.cells #[.pointer (some ⟨G, 0, none⟩)] 23))
  have HO := Lib.hid (hO0.alloc (.cells #[.pointer (some ⟨G, 0, none⟩)] 23))
  have HB := Lib.hid bB
  have HL := Lib.hid hlk
  have HV := Lib.hid hvv
  have HGV := Lib.hid hgv
  clear hlk hvv hgv hG hM0 hO0 hM3 hm2 bB
  refine (callsIn_wide (n := 9)).1 ?_
  refine callsIn_of_wp_marks Try.func17 rfl trivial ?_ rfl
  simp only [Try.ntmps17, List.size_toArray, List.length_cons, List.length_nil, Nat.reduceAdd, Nat.reduceSub, Array.replicate_succ, Array.replicate_zero, List.push_toArray, List.append_toArray, List.nil_append, List.cons_append]
  gi_wp2
  refine wpIn_loop_rounds 1 ?_
  rw [roundsIn_succ]
  gi_wp2
  have hwb : ((w.alloc (.cells #[.pointer (some ⟨G, 0, none⟩)] 23))).heap.size = w.heap.size + 1 := by simp
  have h3z : ((((w.alloc (.cells #[.pointer (some ⟨G, 0, none⟩)] 23)).alloc (.cells #[.slice none 0 0] 41)).alloc (.mapIter (some r3) 0 #[] 0))).heap.size = w.heap.size + 1 + 1 + 1 := by simp
  refine wpIn_range (gf := 38) (lb := #[.pointer (some ⟨SB, 0, none⟩), .pointer (some ⟨PB, 0, none⟩), .pointer (some ⟨QB, 0, none⟩)]) (encs := fun c : Int × Int => #[.agg #[.int .i32 c.1, .int .i32 c.2]]) (xs := [(c, 0)]) (A := fun _ => True) rfl (enters_of Try.func38 (by kernel_rfl) rfl)
    (fun W1 hk => HGV.out W1 (Keeps.trans (by (repeat (first | exact Keeps.refl _ _ | refine Keeps.alloc ?_ _ | refine Keeps.drew ?_))) hk)) (fun _ => rfl)
    (ToldI (w.alloc (.cells #[.pointer (some ⟨G, 0, none⟩)] 23)) (w.heap.size + 1) V) (fun _ _ _ _ => False) (toldi_stab _ _ _ _ (by omega)) (fun _ _ _ _ _ _ h => h.elim)
    (fun k => k = w.heap.size + 1) (fun k hk => by rw [hk]; omega) ⟨((Below.refl _ _).alloc (Nat.le_refl _) _).alloc (by simp) _, .inl ⟨rfl, HB.out, fun _ => Iff.rfl⟩⟩ (fun _ _ => trivial)
    (ToldM (w.alloc (.cells #[.pointer (some ⟨G, 0, none⟩)] 23)) w.heap.size (w.heap.size + 1)) (toldm_stab _ _ _ _ (by omega)) ?assign ?body ?done ?stop
  case assign =>
    intro l pre x rest S W hxs hI hin hlt
    obtain ⟨rfl, rfl, rfl⟩ : pre = [] ∧ x = (c, 0) ∧ rest = [] := by
      rcases pre with _ | ⟨p, pre⟩
      · simp at hxs; exact ⟨rfl, hxs.1.symm, hxs.2⟩
      · simp at hxs
    obtain ⟨h1, (⟨_, h2, h3⟩ | ⟨h2, _⟩)⟩ := hI
    · have HX := Lib.hid (And.intro h1 (And.intro h2 (And.intro h3 hin)))
      have hlt2 := h2.lt
      have H2 := Lib.hid hlt2
      clear h1 h2 h3 hin hrg hnx cG
      gi_wp2
      obtain ⟨h1, h2, h3, hin⟩ := HX.out
      refine ⟨fun k => k = w.heap.size + 1 ∨ k = W.heap.size, ⟨(Keeps.refl S W).alloc _, fun k hk => ?_⟩, fun k hk => ?_, W.heap.size, ⟨rfl, rfl, by simp⟩, Blk.new W 65 [.int .i32 c, .int .i32 0], h1.alloc h1.size _, fun _ => h2.alloc _, fun _ => Iff.rfl⟩
      · rcases hk with h | h
        · exact .inl ((h3 k).2 h)
        · exact .inr (by omega)
      · simp
        rcases hk with h | h <;> omega
    · exact absurd rfl h2
  case body =>
    intro l pre x rest a1 S W hxs hM hin hlt
    obtain ⟨rfl, rfl, rfl⟩ : pre = [] ∧ x = (c, 0) ∧ rest = [] := by
      rcases pre with _ | ⟨p, pre⟩
      · simp at hxs; exact ⟨rfl, hxs.1.symm, hxs.2⟩
      · simp at hxs
    exact told_body l (w.alloc (.cells #[.pointer (some ⟨G, 0, none⟩)] 23)) G r1 r2 r3 g cap w.heap.size (w.heap.size + 1) c vv V HG.out H27.out HM.out HO.out (by omega) HL.out HV.out S W a1 hM hin
  case done =>
    rintro D S' W' hD hnD hf hin ⟨h1, (⟨h2, _⟩ | ⟨_, a, cp, h3, h4, h5⟩)⟩ hDD
    · cases h2
    · have cB := h3.cell 0
      simp only [List.getElem?_cons_zero] at cB
      obtain ⟨n, hn⟩ : ∃ n, n = V.length := ⟨_, rfl⟩
      rw [← hn] at cB
      have hn1 : n ≤ 1 := by omega
      have HX := Lib.hid (And.intro h1 (And.intro h3 (And.intro h4 h5)))
      have HN := Lib.hid hn
      clear h1 h3 h4 h5 hrg hnx cG hn hV hin hf
      have HD := Lib.hid (And.intro hD (And.intro hnD hDD))
      clear hD hnD hDD hwb h3z
      gi_wp2_with (first
        | (refine ⟨trivial, ?_⟩; gi_at_call 36; refine (callsIn_wide.2 (sort1 _ _ _ hn1 _)).mono ?_; rintro e w1 ⟨⟨v, rfl⟩, rfl⟩)
        | (refine ⟨trivial, ?_⟩; gi_at_call 37; refine (callsIn_wide.2 (compact1 _ _ _ hn1 _)).mono ?_; rintro e w1 ⟨rfl, rfl⟩)
        | (refine ⟨trivial, ?_⟩; gi_at_call 16; refine (callsIn_wide.2 (values_any _ _ _ _)).mono ?_; rintro e w1 ⟨rfl, rfl⟩))
      obtain ⟨hD, hnD, hDD⟩ := HD.out
      have hDl : D < W'.heap.size := (Array.getElem?_eq_some_iff.1 hDD).1
      have hDD2 : (W'.alloc (.cells #[.slice a n cp] 41)).heap[D]? = some (.deferred (some [])) := (Below.heap_alloc _ _ _ hDl).trans hDD
      have kp := keeps_putObj (W'.alloc (.cells #[.slice a n cp] 41)) D (.deferred none)
      have HP := Lib.hid kp
      clear kp
      refine ⟨by simp, .inl ⟨_, _, rfl, run_takeDeferred hDD2, ?_⟩⟩
      obtain ⟨h1, h3, h4, h5⟩ := HX.out
      have hz := h1.size
      simp only [World.size_alloc] at hz hD
      have hb := Blk.new W' 41 [.slice a n cp]
      rw [HN.out] at hb
      refine ⟨_, results_tmp rfl _ _ _, W'.heap.size, rfl, ?_, by omega, a, cp, ?_, ?_⟩
      · have k1 : Keeps (fun _ => False) w W' := (Keeps.refl _ w).alloc _ |>.trans (Keeps.of_below0 h1)
        exact (k1.alloc _).then HP.out (fun i hi e => by omega)
      · have := hb.keeps (HN.out ▸ HP.out) (fun e => by omega)
        simpa [HN.out] using this
      · have h6 : W'.ownsRow w.heap.size 31 1 (.slice a V.length cp) V.length (u32v V) := own_mono h4 (by simp)
        exact owns_keeps (h6.alloc _) HP.out (fun b hb e => hnD (e ▸ (h5 _).2 (.inr hb)))
  case stop =>
    intro D c0 pre S' W' hD hnD hf hin hpre hx
    exact hx.elim
end Gr
end Go.Proofs.Ytdbpfbokfmpgcaa
