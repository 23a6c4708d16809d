/-
  GrF: Put at the one box of 'works': the round.
-/
import Derived.Test.YtppiohmnbffndaaGrE
import Derived.Test.YtppiohmnbffndaaHeldIn
import Derived.Test.YtppiohmnbffndaaGrow
import Derived.Test.YtppiohmnbffndaaFr
import Derived.Test.YtppiohmnbffndaaFr181
namespace Go.Proofs.Ytppiohmnbffndaa
open Go.RowKit Go.Shelf
set_option linter.unusedVariables false
set_option linter.unusedSimpArgs false
attribute [local go_sem] Oper.semAt_some
namespace Gr
open Mem
theorem u32Info : (Try.prog.info? 35).map (fun i => (i.zero, i.size, i.bytes)) = some (some (.int .u32 0), 1, 4) := by kernel_rfl
theorem frames62 {P : Act → Prop} (hP : ∀ u0 u1 u2 u3 u4 u5 u6 u7 u8 u9 u10 u11 u12 u13 u14 u15 u16 u17 u18 u19 u20 u21 u22 u23 u24 u25 u26 u27 u28 u29 u30 u31 u32 u33 u34 u35 u36 u37 u38 u39 u40 u41 u42 u43 u44 u45 u46 u47 u48 u49 u50 u51 u52 u53 u54 u55 u56 u57 u58 u59 u60 u61 : Value, P ⟨#[u0, u1, u2, u3, u4, u5, u6, u7, u8, u9, u10, u11, u12, u13, u14, u15, u16, u17, u18, u19, u20, u21, u22, u23, u24, u25, u26, u27, u28, u29, u30, u31, u32, u33, u34, u35, u36, u37, u38, u39, u40, u41, u42, u43, u44, u45, u46, u47, u48, u49, u50, u51, u52, u53, u54, u55, u56, u57, u58, u59, u60, u61], []⟩) : ∀ a : Act, a.tmps.size = 62 → a.defers = [] → P a := by
  rintro ⟨⟨t⟩, d⟩ h1 h2
  simp only [List.size_toArray] at h1 h2
  subst h2
  have h := unroll t 62 h1
  have e : (List.range 62).map (fun i => t.getD i undef) = [t.getD 0 undef, t.getD 1 undef, t.getD 2 undef, t.getD 3 undef, t.getD 4 undef, t.getD 5 undef, t.getD 6 undef, t.getD 7 undef, t.getD 8 undef, t.getD 9 undef, t.getD 10 undef, t.getD 11 undef, t.getD 12 undef, t.getD 13 undef, t.getD 14 undef, t.getD 15 undef, t.getD 16 undef, t.getD 17 undef, t.getD 18 undef, t.getD 19 undef, t.getD 20 undef, t.getD 21 undef, t.getD 22 undef, t.getD 23 undef, t.getD 24 undef, t.getD 25 undef, t.getD 26 undef, t.getD 27 undef, t.getD 28 undef, t.getD 29 undef, t.getD 30 undef, t.getD 31 undef, t.getD 32 undef, t.getD 33 undef, t.getD 34 undef, t.getD 35 undef, t.getD 36 undef, t.getD 37 undef, t.getD 38 undef, t.getD 39 undef, t.getD 40 undef, t.getD 41 undef, t.getD 42 undef, t.getD 43 undef, t.getD 44 undef, t.getD 45 undef, t.getD 46 undef, t.getD 47 undef, t.getD 48 undef, t.getD 49 undef, t.getD 50 undef, t.getD 51 undef, t.getD 52 undef, t.getD 53 undef, t.getD 54 undef, t.getD 55 undef, t.getD 56 undef, t.getD 57 undef, t.getD 58 undef, t.getD 59 undef, t.getD 60 undef, t.getD 61 undef] := rfl
  exact Eq.mpr (congrArg (fun l : List Value => P ⟨⟨l⟩, []⟩) (h.trans e)) (hP (t.getD 0 undef) (t.getD 1 undef) (t.getD 2 undef) (t.getD 3 undef) (t.getD 4 undef) (t.getD 5 undef) (t.getD 6 undef) (t.getD 7 undef) (t.getD 8 undef) (t.getD 9 undef) (t.getD 10 undef) (t.getD 11 undef) (t.getD 12 undef) (t.getD 13 undef) (t.getD 14 undef) (t.getD 15 undef) (t.getD 16 undef) (t.getD 17 undef) (t.getD 18 undef) (t.getD 19 undef) (t.getD 20 undef) (t.getD 21 undef) (t.getD 22 undef) (t.getD 23 undef) (t.getD 24 undef) (t.getD 25 undef) (t.getD 26 undef) (t.getD 27 undef) (t.getD 28 undef) (t.getD 29 undef) (t.getD 30 undef) (t.getD 31 undef) (t.getD 32 undef) (t.getD 33 undef) (t.getD 34 undef) (t.getD 35 undef) (t.getD 36 undef) (t.getD 37 undef) (t.getD 38 undef) (t.getD 39 undef) (t.getD 40 undef) (t.getD 41 undef) (t.getD 42 undef) (t.getD 43 undef) (t.getD 44 undef) (t.getD 45 undef) (t.getD 46 undef) (t.getD 47 undef) (t.getD 48 undef) (t.getD 49 undef) (t.getD 50 undef) (t.getD 51 undef) (t.getD 52 undef) (t.getD 53 undef) (t.getD 54 undef) (t.getD 55 undef) (t.getD 56 undef) (t.getD 57 undef) (t.getD 58 undef) (t.getD 59 undef) (t.getD 60 undef) (t.getD 61 undef))
noncomputable def putBody : Code := (rbods (Try.f10.body.getD .skip)).getD 0 .skip
/-- the list of the one cell -/
def Ent (W : World) (r2 g : Nat) : Prop := ∃ cap, Mp W r2 #[⟨.agg #[.int .i32 0, .int .i32 0], .slice (some ⟨g, 0, none⟩) 1 cap, 0⟩] 1 ∧ W.ownsRow 0 35 1 (.slice (some ⟨g, 0, none⟩) 1 cap) 1 [.int .u32 4]
def PutI (W0 : World) (r2 : Nat) (pre : List (Int × Int)) (S : Nat → Prop) (W : World) : Prop :=
  Keeps (fun k => k = r2) W0 W ∧ ((pre = [] ∧ Mp W r2 #[] 0 ∧ ∀ k, S k ↔ k = r2) ∨ (pre ≠ [] ∧ ∃ g, W0.heap.size ≤ g ∧ Ent W r2 g ∧ ∀ k, S k ↔ k = r2 ∨ k = g))
theorem puti_stab (W0 : World) (r2 : Nat) : Stab W0.heap.size (PutI W0 r2) := by
  intro pre S T W W' h hin hk hd ht
  obtain ⟨h1, h2⟩ := h
  refine ⟨h1.then hk (fun i hi hT => absurd (ht i hT) (by omega)), ?_⟩
  rcases h2 with ⟨rfl, h3, h4⟩ | ⟨hp, g, hg, ⟨cap, h3, h4⟩, h5⟩
  · exact .inl ⟨rfl, h3.keeps hk (hd _ ((h4 _).2 rfl)), h4⟩
  · exact .inr ⟨hp, g, hg, ⟨cap, h3.keeps hk (hd _ ((h5 _).2 (.inl rfl))), owns_keeps h4 hk (fun k hk' => hd _ ((h5 _).2 (.inr (by simpa [Value.ownBlock] using hk'.symm))))⟩, h5⟩
def PutM (W0 : World) (G r2 B27 B35 : Nat) (s : List (Int × Int) × (Int × Int) × Act) (S : Nat → Prop) (W : World) : Prop :=
  ∃ X, Fr s.2.2 62 [(3, .pointer (some ⟨B27, 0, none⟩)), (4, .pointer (some ⟨B35, 0, none⟩)), (9, .pointer (some ⟨X, 0, none⟩))] ∧ Blk W X 73 [.int .i32 s.2.1.1, .int .i32 s.2.1.2] ∧ Keeps (fun k => k = r2) W0 W ∧ (s.1 = [] → Mp W r2 #[] 0) ∧ (∀ k, S k ↔ k = r2 ∨ k = X)
theorem putm_stab (W0 : World) (G r2 B27 B35 : Nat) : Stab W0.heap.size (PutM W0 G r2 B27 B35) := by
  intro s S T W W' h hin hk hd ht
  obtain ⟨X, hF, h1, h2, h3, h4⟩ := h
  exact ⟨X, hF, h1.keeps hk (hd _ ((h4 _).2 (.inr rfl))), h2.then hk (fun i hi hT => absurd (ht i hT) (by omega)), fun e => (h3 e).keeps hk (hd _ ((h4 _).2 (.inl rfl))), h4⟩
set_option maxHeartbeats 4000000 in
set_option maxRecDepth 100000 in
theorem put_body (l : Nat) (W0 : World) (G r1 r2 r3 B27 B35 : Nat) (hG : Blk W0 G 65 [.int .i64 10, .map (some r1), .map (some r2), .map (some r3)]) (b27 : Blk W0 B27 27 [.pointer (some ⟨G, 0, none⟩)]) (b35 : Blk W0 B35 35 [.int .u32 4]) (hM0 : Mp W0 r2 #[] 0)
    (S : Nat → Prop) (W : World) (a : Act) (hM : PutM W0 G r2 B27 B35 ([], (0, 0), a) S W) (hin : Inb S W) : putBody.wpIn (Fence.wide.inRound l) 7 Try.prog (Mem.Left (PutI W0 r2) (fun _ _ _ _ => False) ([] ++ [((0 : Int), (0 : Int))]) S W) a W := by
  obtain ⟨X, hF, hX, hK, hM, hS⟩ := hM
  have hM := hM rfl
  simp only at hF hX
  revert hF
  refine fun hF => frames62 (P := fun a => Fr a 62 [(3, .pointer (some ⟨B27, 0, none⟩)), (4, .pointer (some ⟨B35, 0, none⟩)), (9, .pointer (some ⟨X, 0, none⟩))] → putBody.wpIn (Fence.wide.inRound l) 7 Try.prog (Mem.Left (PutI W0 r2) (fun _ _ _ _ => False) ([] ++ [((0 : Int), (0 : Int))]) S W) a W) ?_ a hF.1 hF.2.1 hF
  intro u0 u1 u2 u3 u4 u5 u6 u7 u8 u9 u10 u11 u12 u13 u14 u15 u16 u17 u18 u19 u20 u21 u22 u23 u24 u25 u26 u27 u28 u29 u30 u31 u32 u33 u34 u35 u36 u37 u38 u39 u40 u41 u42 u43 u44 u45 u46 u47 u48 u49 u50 u51 u52 u53 u54 u55 u56 u57 u58 u59 u60 u61 hF
  obtain rfl : u3 = .pointer (some ⟨B27, 0, none⟩) := hF.at_ 3 _ (by simp)
  obtain rfl : u4 = .pointer (some ⟨B35, 0, none⟩) := hF.at_ 4 _ (by simp)
  obtain rfl : u9 = .pointer (some ⟨X, 0, none⟩) := hF.at_ 9 _ (by simp)
  clear hF
  have e1 := hM0.ne hG
  have e2 := hM0.ne b27
  have e3 := hM0.ne b35
  have e4 := hM.ne hX
  have HSN := Lib.hid (show ∀ W', Keeps (fun k => k = r2) W W' → (∀ i : Nat, W'.cell? ⟨B27, i, none⟩ = ([.pointer (some ⟨G, 0, none⟩)] : List Value)[i]?) ∧ (∀ i : Nat, W'.cell? ⟨G, i, none⟩ = ([.int .i64 10, .map (some r1), .map (some r2), .map (some r3)] : List Value)[i]?) ∧ (∀ i : Nat, W'.cell? ⟨X, i, none⟩ = ([.int .i32 0, .int .i32 0] : List Value)[i]?) ∧ W'.cell? ⟨B35, 0, none⟩ = some (.int .u32 4) from fun W' hk => ⟨(((b27.keeps hK e2).keeps hk e2)).cell, (((hG.keeps hK e1).keeps hk e1)).cell, (hX.keeps hk e4).cell, by have := ((b35.keeps hK e3).keeps hk e3).cell 0; simpa using this⟩)
  have hS0 : (∀ i : Nat, W.drew.cell? ⟨B27, i, none⟩ = ([.pointer (some ⟨G, 0, none⟩)] : List Value)[i]?) ∧ (∀ i : Nat, W.drew.cell? ⟨G, i, none⟩ = ([.int .i64 10, .map (some r1), .map (some r2), .map (some r3)] : List Value)[i]?) ∧ (∀ i : Nat, W.drew.cell? ⟨X, i, none⟩ = ([.int .i32 0, .int .i32 0] : List Value)[i]?) ∧ W.drew.cell? ⟨B35, 0, none⟩ = some (.int .u32 4) := HSN.out _ (Keeps.refl _ W).drew
  obtain ⟨i0, hi0, hz0, hz1, hz2⟩ := info_parts u32Info
  have HI := Lib.hid (And.intro hK (And.intro hS hin))
  have HE := Lib.hid e4
  have hA2 := en62 (hM.alloc (.cells #[.int .u32 4] 35)).drew 0 0
  have HM := Lib.hid hM
  clear hK hS hin hG b27 b35 hM0 e1 e2 e3 e4 hX hM
  conv => arg 4; whnf
  gi_wp2
  refine region_heldIn (fun W' => (∀ i : Nat, W'.cell? ⟨B27, i, none⟩ = ([.pointer (some ⟨G, 0, none⟩)] : List Value)[i]?) ∧ (∀ i : Nat, W'.cell? ⟨G, i, none⟩ = ([.int .i64 10, .map (some r1), .map (some r2), .map (some r3)] : List Value)[i]?) ∧ (∀ i : Nat, W'.cell? ⟨X, i, none⟩ = ([.int .i32 0, .int .i32 0] : List Value)[i]?) ∧ W'.cell? ⟨B35, 0, none⟩ = some (.int .u32 4)) (by kernel_rfl) ?_
  (refine anyHeld_take 0 (v := ?_) (by kernel_rfl) rfl (by kernel_rfl) (by kernel_rfl) (by kernel_rfl) (fun _ _ _ h => h) ⟨Or.inl ⟨by rfl, ?_⟩, fun _ _ _ => trivial⟩ (by with_reducible assumption) ?_; rotate_left; (focus (rintro w ⟨q1, q2, q3, q4⟩; go_simp; try with_reducible rfl))); simp only [Act.put, List.getElem_toArray, List.getElem_cons_succ, List.getElem_cons_zero, List.setIfInBounds_toArray, List.set_cons_zero, List.set_cons_succ]
  (refine anyHeld_take 1 (v := ?_) (by kernel_rfl) rfl (by kernel_rfl) (by kernel_rfl) (by kernel_rfl) (fun _ _ _ h => h) ⟨Or.inl ⟨by rfl, ?_⟩, fun _ _ _ => trivial⟩ (by with_reducible assumption) ?_; rotate_left; (focus (rintro w ⟨q1, q2, q3, q4⟩; go_simp; try with_reducible rfl))); simp only [Act.put, List.getElem_toArray, List.getElem_cons_succ, List.getElem_cons_zero, List.setIfInBounds_toArray, List.set_cons_zero, List.set_cons_succ]
  (refine anyHeld_take 2 (v := ?_) (by kernel_rfl) rfl (by kernel_rfl) (by kernel_rfl) (by kernel_rfl) (fun _ _ _ h => h) ⟨Or.inl ⟨by rfl, ?_⟩, fun _ _ _ => trivial⟩ (by with_reducible assumption) ?_; rotate_left; (focus (rintro w ⟨q1, q2, q3, q4⟩; go_simp; try with_reducible rfl))); simp only [Act.put, List.getElem_toArray, List.getElem_cons_succ, List.getElem_cons_zero, List.setIfInBounds_toArray, List.set_cons_zero, List.set_cons_succ]
  (refine anyHeld_take 3 (v := ?_) (by kernel_rfl) rfl (by kernel_rfl) (by kernel_rfl) (by kernel_rfl) (fun _ _ _ h => h) ⟨Or.inl ⟨by rfl, ?_⟩, fun _ _ _ => trivial⟩ (by with_reducible assumption) ?_; rotate_left; (focus (rintro w ⟨q1, q2, q3, q4⟩; go_simp; try with_reducible rfl))); simp only [Act.put, List.getElem_toArray, List.getElem_cons_succ, List.getElem_cons_zero, List.setIfInBounds_toArray, List.set_cons_zero, List.set_cons_succ]
  (refine anyHeld_take 4 (v := ?_) (by kernel_rfl) rfl (by kernel_rfl) (by kernel_rfl) (by kernel_rfl) (fun _ _ _ h => h) ⟨Or.inl ⟨by rfl, ?_⟩, fun _ _ _ => trivial⟩ (by with_reducible assumption) ?_; rotate_left; (focus (rintro w ⟨q1, q2, q3, q4⟩; go_simp; try with_reducible rfl))); simp only [Act.put, List.getElem_toArray, List.getElem_cons_succ, List.getElem_cons_zero, List.setIfInBounds_toArray, List.set_cons_zero, List.set_cons_succ]
  (refine anyHeld_take 5 (v := ?_) (by kernel_rfl) rfl (by kernel_rfl) (by kernel_rfl) (by kernel_rfl) (fun _ _ _ h => h) ⟨Or.inl ⟨by rfl, ?_⟩, fun _ _ _ => trivial⟩ (by with_reducible assumption) ?_; rotate_left; (focus (rintro w ⟨q1, q2, q3, q4⟩; go_simp; try with_reducible rfl))); simp only [Act.put, List.getElem_toArray, List.getElem_cons_succ, List.getElem_cons_zero, List.setIfInBounds_toArray, List.set_cons_zero, List.set_cons_succ]
  refine anyHeld_one 6 (by kernel_rfl) rfl (by rfl) (fun K hK => ?_)
  go_simp
  refine hK _ _ (HSN.out _ (by repeat (first | exact Keeps.refl _ _ | refine Keeps.alloc ?_ _ | refine Keeps.drew ?_))) ?_
  clear hK
  have hS1 : (∀ i : Nat, (setM (W.alloc (.cells #[.int .u32 4] 35)).drew r2 #[⟨.agg #[.int .i32 0, .int .i32 0], .slice none 0 0, 0⟩] 1).cell? ⟨B27, i, none⟩ = ([.pointer (some ⟨G, 0, none⟩)] : List Value)[i]?) ∧ (∀ i : Nat, (setM (W.alloc (.cells #[.int .u32 4] 35)).drew r2 #[⟨.agg #[.int .i32 0, .int .i32 0], .slice none 0 0, 0⟩] 1).cell? ⟨G, i, none⟩ = ([.int .i64 10, .map (some r1), .map (some r2), .map (some r3)] : List Value)[i]?) ∧ (∀ i : Nat, (setM (W.alloc (.cells #[.int .u32 4] 35)).drew r2 #[⟨.agg #[.int .i32 0, .int .i32 0], .slice none 0 0, 0⟩] 1).cell? ⟨X, i, none⟩ = ([.int .i32 0, .int .i32 0] : List Value)[i]?) ∧ (setM (W.alloc (.cells #[.int .u32 4] 35)).drew r2 #[⟨.agg #[.int .i32 0, .int .i32 0], .slice none 0 0, 0⟩] 1).cell? ⟨B35, 0, none⟩ = some (.int .u32 4) := HSN.out _ (((Keeps.refl _ W).alloc _).drew.trans (setM_keeps _ _ _ _))
  refine anyHeld_one 7 (by kernel_rfl) rfl (by rfl) (fun K hK => ?_)
  go_simp
  refine hK _ _ hS1 ?_
  clear hK hS0
  (refine anyHeld_take 8 (v := ?_) (by kernel_rfl) rfl (by kernel_rfl) (by kernel_rfl) (by kernel_rfl) (fun _ _ _ h => h) ⟨Or.inl ⟨by rfl, ?_⟩, fun _ _ _ => trivial⟩ (by with_reducible assumption) ?_; rotate_left; (focus (rintro w ⟨q1, q2, q3, q4⟩; go_simp; try with_reducible rfl))); simp only [Act.put, List.getElem_toArray, List.getElem_cons_succ, List.getElem_cons_zero, List.setIfInBounds_toArray, List.set_cons_zero, List.set_cons_succ]
  (refine anyHeld_take 10 (v := ?_) (by kernel_rfl) rfl (by kernel_rfl) (by kernel_rfl) (by kernel_rfl) (fun _ _ _ h => h) ⟨Or.inl ⟨by rfl, ?_⟩, fun _ _ _ => trivial⟩ (by with_reducible assumption) ?_; rotate_left; (focus (rintro w ⟨q1, q2, q3, q4⟩; go_simp; try with_reducible rfl))); simp only [Act.put, List.getElem_toArray, List.getElem_cons_succ, List.getElem_cons_zero, List.setIfInBounds_toArray, List.set_cons_zero, List.set_cons_succ]
  have hM1 := setM_mp (HM.out.alloc (.cells #[.int .u32 4] 35)).drew #[⟨.agg #[.int .i32 0, .int .i32 0], .slice none 0 0, 0⟩] 1
  have hne : W.heap.size ≠ r2 := by have := HM.out.lt; omega
  have hB := (Blk.new W 35 [.int .u32 4]).drew.keeps (setM_keeps (W.alloc (.cells #[.int .u32 4] 35)).drew r2 #[⟨.agg #[.int .i32 0, .int .i32 0], .slice none 0 0, 0⟩] 1) hne
  obtain ⟨W2, hW2⟩ : ∃ W2, W2 = setM (W.alloc (.cells #[.int .u32 4] 35)).drew r2 #[⟨.agg #[.int .i32 0, .int .i32 0], .slice none 0 0, 0⟩] 1 := ⟨_, rfl⟩
  have hk2 : Keeps (fun k => k = r2) W W2 := by rw [hW2]; exact ((Keeps.refl _ W).alloc _).drew.trans (setM_keeps _ _ _ _)
  rw [← hW2] at hM1 hB hS1 ⊢
  clear hW2 hA2
  refine anyHeld_one 9 (by kernel_rfl) rfl (by rfl) (fun K hK => ?_)
  refine oper_append_own (.tmp 56) (.tmp 58) 53 (by rfl) 0 35 i0 _ 1 4 Try.underlying53 hi0 hz0 hz1 hz2 rfl (by decide) (.slice none 0 0) 0 [] (by rfl) (World.ownsRow_nil _ _ _ _) ⟨W.heap.size, 0, none⟩ 1 1 [.int .u32 4] (by rfl) rfl (fun j u hj => by rcases j with _ | j <;> simp at hj; subst hj; simpa [Addr.add] using hB.cell 0) (by simp [Value.oneCell']) (by unfold maxLen; omega) (by omega) (Nat.zero_le _) ?_
  intro v' w1 hown hgrow hat
  obtain ⟨g', cap', rfl⟩ := ownsRow_succ hown
  have hk3 : Keeps (fun _ => False) W2 w1 := (Keeps.of_grown hgrow).mono (fun k _ h => by simp [Value.ownBlock] at h)
  have hM2 := hM1.keeps hk3 (fun h => h)
  have hk4 := hk2.trans (hk3.mono (fun _ _ h => h.elim))
  have hg : g' = W2.heap.size := by simpa [Value.ownBlock] using hat
  simp only [Nat.zero_add, List.nil_append] at hown ⊢
  have hst := st62 hM2 (.slice (some ⟨g', 0, none⟩) 1 cap')
  have HG := Lib.hid hg
  clear hg hat hgrow
  have hk5 := hk4.trans (setM_keeps w1 r2 #[⟨.agg #[.int .i32 0, .int .i32 0], .slice (some ⟨g', 0, none⟩) 1 cap', 0⟩] 1)
  refine hK _ _ (HSN.out _ hk4) ?_
  clear hK
  simp only [Act.put, List.getElem_toArray, List.getElem_cons_succ, List.getElem_cons_zero, List.setIfInBounds_toArray, List.set_cons_zero, List.set_cons_succ]
  refine anyHeld_one 11 (by kernel_rfl) rfl (by rfl) (fun K hK => ?_)
  go_simp
  refine hK _ _ (HSN.out _ hk5) ?_
  clear hK
  refine anyHeld_done (by kernel_rfl) ?_ _
  gi_wp2
  have hg := HG.out
  have hgr2 : g' ≠ r2 := by have := HM.out.lt; have := hk2.size; omega
  obtain ⟨q1, q2, q3⟩ := HI.out
  have hM3 := setM_mp hM2 #[⟨.agg #[.int .i32 0, .int .i32 0], .slice (some ⟨g', 0, none⟩) 1 cap', 0⟩] 1
  have hz3 : g' < w1.heap.size := (hown.lt g' (by simp [Value.ownBlock])).2
  refine ⟨fun k => k = r2 ∨ k = g', ⟨hk5.mono (fun k _ e => (q2 k).2 (.inl e)), fun k hk => ?_⟩, fun k hk => ?_, q1.trans hk5, .inr ⟨by simp, g', by have := q1.size; have := hk2.size; omega, ⟨cap', hM3, owns_keeps hown (setM_keeps w1 r2 _ _) (fun b hb e => hgr2 (by simp [Value.ownBlock] at hb; omega))⟩, fun _ => Iff.rfl⟩⟩
  · rcases hk with h | h
    · exact .inl ((q2 k).2 (.inl h))
    · exact .inr (by have := hk2.size; omega)
  · rcases hk with h | h
    · rw [h]; exact hM3.lt
    · rw [h]; simpa [setM] using hz3
end Gr
end Go.Proofs.Ytppiohmnbffndaa
