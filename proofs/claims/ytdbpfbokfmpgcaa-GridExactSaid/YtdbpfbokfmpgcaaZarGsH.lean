/-
GsH: Put: the round.
-/
import Derived.Test.YtdbpfbokfmpgcaaZalGrowGsGGsP
import Derived.Test.YtdbpfbokfmpgcaaZaqGsD
import Derived.Test.YtdbpfbokfmpgcaaZaoFrGsBHeldInFr181
namespace Go.Proofs.Ytdbpfbokfmpgcaa
open Go.RowKit Go.Shelf
set_option linter.unusedVariables false
set_option linter.unusedSimpArgs false
set_option linter.ambiguousOpen false
attribute [local go_sem] Oper.semAt_some
namespace Gs
open Mem Gr
open So (vals)
theorem u32Info : (Try.prog.info? 31).map (fun i => (i.zero, i.size, i.bytes)) = some (some (.int .u32 0), 1, 4) := by kernel_rfl
theorem info_parts {P : Program} {t : TypeId} {z : Option Value} {s b : Nat} (h : (P.info? t).map (fun i => (i.zero, i.size, i.bytes)) = some (z, s, b)) : ∃ i, P.info? t = some i ∧ i.zero = z ∧ i.size = s ∧ i.bytes = b := by
  cases hi : P.info? t with
  | none => rw [hi] at h; cases h
  | some i => rw [hi] at h; simp at h; exact ⟨i, rfl, h.1, h.2.1, h.2.2⟩
theorem frames62 {P : Act → Prop} (hP : ∀ u0 u1 u2 u3 u4 u5 u6 u7 u8 u9 u10 u11 u12 u13 u14 u15 u16 u17 u18 u19 u20 u21 u22 u23 u24 u25 u26 u27 u28 u29 u30 u31 u32 u33 u34 u35 u36 u37 u38 u39 u40 u41 u42 u43 u44 u45 u46 u47 u48 u49 u50 u51 u52 u53 u54 u55 u56 u57 u58 u59 u60 u61 : Value, P ⟨#[u0, u1, u2, u3, u4, u5, u6, u7, u8, u9, u10, u11, u12, u13, u14, u15, u16, u17, u18, u19, u20, u21, u22, u23, u24, u25, u26, u27, u28, u29, u30, u31, u32, u33, u34, u35, u36, u37, u38, u39, u40, u41, u42, u43, u44, u45, u46, u47, u48, u49, u50, u51, u52, u53, u54, u55, u56, u57, u58, u59, u60, u61], []⟩) : ∀ a : Act, a.tmps.size = 62 → a.defers = [] → P a := by
  rintro ⟨⟨t⟩, d⟩ h1 h2
  simp only [List.size_toArray] at h1 h2
  subst h2
  have h := unroll t 62 h1
  have e : (List.range 62).map (fun i => t.getD i undef) = [t.getD 0 undef, t.getD 1 undef, t.getD 2 undef, t.getD 3 undef, t.getD 4 undef, t.getD 5 undef, t.getD 6 undef, t.getD 7 undef, t.getD 8 undef, t.getD 9 undef, t.getD 10 undef, t.getD 11 undef, t.getD 12 undef, t.getD 13 undef, t.getD 14 undef, t.getD 15 undef, t.getD 16 undef, t.getD 17 undef, t.getD 18 undef, t.getD 19 undef, t.getD 20 undef, t.getD 21 undef, t.getD 22 undef, t.getD 23 undef, t.getD 24 undef, t.getD 25 undef, t.getD 26 undef, t.getD 27 undef, t.getD 28 undef, t.getD 29 undef, t.getD 30 undef, t.getD 31 undef, t.getD 32 undef, t.getD 33 undef, t.getD 34 undef, t.getD 35 undef, t.getD 36 undef, t.getD 37 undef, t.getD 38 undef, t.getD 39 undef, t.getD 40 undef, t.getD 41 undef, t.getD 42 undef, t.getD 43 undef, t.getD 44 undef, t.getD 45 undef, t.getD 46 undef, t.getD 47 undef, t.getD 48 undef, t.getD 49 undef, t.getD 50 undef, t.getD 51 undef, t.getD 52 undef, t.getD 53 undef, t.getD 54 undef, t.getD 55 undef, t.getD 56 undef, t.getD 57 undef, t.getD 58 undef, t.getD 59 undef, t.getD 60 undef, t.getD 61 undef] := rfl
  exact Eq.mpr (congrArg (fun l : List Value => P ⟨⟨l⟩, []⟩) (h.trans e)) (hP (t.getD 0 undef) (t.getD 1 undef) (t.getD 2 undef) (t.getD 3 undef) (t.getD 4 undef) (t.getD 5 undef) (t.getD 6 undef) (t.getD 7 undef) (t.getD 8 undef) (t.getD 9 undef) (t.getD 10 undef) (t.getD 11 undef) (t.getD 12 undef) (t.getD 13 undef) (t.getD 14 undef) (t.getD 15 undef) (t.getD 16 undef) (t.getD 17 undef) (t.getD 18 undef) (t.getD 19 undef) (t.getD 20 undef) (t.getD 21 undef) (t.getD 22 undef) (t.getD 23 undef) (t.getD 24 undef) (t.getD 25 undef) (t.getD 26 undef) (t.getD 27 undef) (t.getD 28 undef) (t.getD 29 undef) (t.getD 30 undef) (t.getD 31 undef) (t.getD 32 undef) (t.getD 33 undef) (t.getD 34 undef) (t.getD 35 undef) (t.getD 36 undef) (t.getD 37 undef) (t.getD 38 undef) (t.getD 39 undef) (t.getD 40 undef) (t.getD 41 undef) (t.getD 42 undef) (t.getD 43 undef) (t.getD 44 undef) (t.getD 45 undef) (t.getD 46 undef) (t.getD 47 undef) (t.getD 48 undef) (t.getD 49 undef) (t.getD 50 undef) (t.getD 51 undef) (t.getD 52 undef) (t.getD 53 undef) (t.getD 54 undef) (t.getD 55 undef) (t.getD 56 undef) (t.getD 57 undef) (t.getD 58 undef) (t.getD 59 undef) (t.getD 60 undef) (t.getD 61 undef))
noncomputable def putBody : Code := (rbods (Try.f12.body.getD .skip)).getD 0 .skip
theorem addC_len {id : Nat} {c : Int × Int} : ∀ {C : List ((Int × Int) × List Nat)} {n : Nat}, (∀ e ∈ C, e.2.length ≤ n) → ∀ e ∈ addC id C c, e.2.length ≤ n + 1
  | [], n, _, e, he => by simp [addC] at he; subst he; simp
  | x :: L, n, h, e, he => by
    rw [addC] at he
    split at he
    · rcases List.mem_cons.1 he with rfl | he
      · have := h x (by simp); simp; omega
      · have := h e (by simp [he]); omega
    · rcases List.mem_cons.1 he with rfl | he
      · have := h e (by simp); omega
      · exact addC_len (fun y hy => h y (by simp [hy])) e he
def PutI (W0 : World) (r2 : Nat) (M0 : List CE) (id N : Nat) (pre : List Cl) (S : Nat → Prop) (W : World) : Prop :=
  ∃ M, CellsM W r2 M ∧ viewE M = pre.foldl (addC id) (viewE M0) ∧ (∀ k, Own M k → Own M0 k ∨ W0.heap.size ≤ k) ∧ Keeps (fun k => k = r2 ∨ Own M0 k) W0 W ∧ (∀ e ∈ M, e.ids.length ≤ N + pre.length) ∧ ∀ k, S k ↔ k = r2 ∨ Own M k
theorem puti_stab (W0 : World) (r2 : Nat) (M0 : List CE) (id N : Nat) : Stab W0.heap.size (PutI W0 r2 M0 id N) := by
  intro pre S T W W' ⟨M, h1, h2, h3, h4, h5, h6⟩ hin hk hd ht
  exact ⟨M, h1.keeps hk (hd _ ((h6 _).2 (.inl rfl))) (fun k h => hd _ ((h6 _).2 (.inr h))), h2, h3, h4.then hk (fun i hi hT => absurd (ht i hT) (by omega)), h5, h6⟩
def PutM (W0 : World) (r2 : Nat) (M0 : List CE) (id N B27 B35 : Nat) (s : List Cl × Cl × Act) (S : Nat → Prop) (W : World) : Prop :=
  ∃ X S1, Fr s.2.2 62 [(3, .pointer (some ⟨B27, 0, none⟩)), (4, .pointer (some ⟨B35, 0, none⟩)), (9, .pointer (some ⟨X, 0, none⟩))] ∧ Blk W X 65 [.int .i32 s.2.1.1, .int .i32 s.2.1.2] ∧ PutI W0 r2 M0 id N s.1 S1 W ∧ Inb S1 W ∧ ¬ S1 X ∧ ∀ k, S k ↔ S1 k ∨ k = X
theorem putm_stab (W0 : World) (r2 : Nat) (M0 : List CE) (id N B27 B35 : Nat) : Stab W0.heap.size (PutM W0 r2 M0 id N B27 B35) := by
  intro s S T W W' ⟨X, S1, hF, h1, h2, h3, h4, h5⟩ hin hk hd ht
  exact ⟨X, S1, hF, h1.keeps hk (hd _ ((h5 _).2 (.inr rfl))), puti_stab W0 r2 M0 id N s.1 S1 T W W' h2 h3 hk (fun k h => hd k ((h5 k).2 (.inl h))) ht, h3.mono hk.size, h4, h5⟩
set_option maxHeartbeats 4000000 in
set_option maxRecDepth 100000 in
theorem put_round (l : Nat) (W0 : World) (G r1 r2 r3 B27 B35 id N : Nat) (s : Int) (M0 : List CE) (hG : Blk W0 G 52 [.int .i64 s, .map (some r1), .map (some r2), .map (some r3)]) (b27 : Blk W0 B27 23 [.pointer (some ⟨G, 0, none⟩)]) (b35 : Blk W0 B35 31 [.int .u32 (id : Int)]) (hM0 : CellsM W0 r2 M0) (hB : ¬ Own M0 B35)
    (pre : List Cl) (x : Cl) (hN : N + pre.length ≤ 1000000) (S : Nat → Prop) (W : World) (a : Act) (hM : PutM W0 r2 M0 id N B27 B35 (pre, x, a) S W) (hin : Inb S W) : putBody.wpIn (Fence.wide.inRound l) 7 Try.prog (Mem.Left (PutI W0 r2 M0 id N) (fun _ _ _ _ => False) (pre ++ [x]) S W) a W := by
  obtain ⟨X, S1, hF, hX, ⟨M, hC, hv, ho, hK, hl, hS1⟩, hin1, hnX, hS⟩ := hM
  simp only at hF hX hv hl
  revert hF
  refine fun hF => frames62 (P := fun a => Fr a 62 [(3, .pointer (some ⟨B27, 0, none⟩)), (4, .pointer (some ⟨B35, 0, none⟩)), (9, .pointer (some ⟨X, 0, none⟩))] → putBody.wpIn (Fence.wide.inRound l) 7 Try.prog (Mem.Left (PutI W0 r2 M0 id N) (fun _ _ _ _ => False) (pre ++ [x]) S W) a W) ?_ a hF.1 hF.2.1 hF
  intro u0 u1 u2 u3 u4 u5 u6 u7 u8 u9 u10 u11 u12 u13 u14 u15 u16 u17 u18 u19 u20 u21 u22 u23 u24 u25 u26 u27 u28 u29 u30 u31 u32 u33 u34 u35 u36 u37 u38 u39 u40 u41 u42 u43 u44 u45 u46 u47 u48 u49 u50 u51 u52 u53 u54 u55 u56 u57 u58 u59 u60 u61 hF
  obtain rfl : u3 = .pointer (some ⟨B27, 0, none⟩) := hF.at_ 3 _ (by simp)
  obtain rfl : u4 = .pointer (some ⟨B35, 0, none⟩) := hF.at_ 4 _ (by simp)
  obtain rfl : u9 = .pointer (some ⟨X, 0, none⟩) := hF.at_ 9 _ (by simp)
  clear hF
  have n27 := hM0.ne b27
  have nG := hM0.ne hG
  have n35 := hM0.ne b35
  have m27 : ¬ Own M0 B27 := hM0.ne_own b27 (by decide)
  have mG : ¬ Own M0 G := hM0.ne_own hG (by decide)
  have l27 := b27.lt
  have lG := hG.lt
  have l35 := b35.lt
  have HSN := Lib.hid (show ∀ W', Keeps (fun k => k = r2 ∨ Own M k) W W' → (∀ i : Nat, W'.cell? ⟨B27, i, none⟩ = ([.pointer (some ⟨G, 0, none⟩)] : List Value)[i]?) ∧ (∀ i : Nat, W'.cell? ⟨G, i, none⟩ = ([.int .i64 s, .map (some r1), .map (some r2), .map (some r3)] : List Value)[i]?) ∧ (∀ i : Nat, W'.cell? ⟨X, i, none⟩ = ([.int .i32 x.1, .int .i32 x.2] : List Value)[i]?) ∧ W'.cell? ⟨B35, 0, none⟩ = some (.int .u32 (id : Int)) from fun W' hk => by
    have far : ∀ k, k < W0.heap.size → k ≠ r2 → ¬ Own M0 k → ¬ (k = r2 ∨ Own M k) := fun k h1 h2 h3 h => h.elim h2 (fun h => (ho k h).elim h3 (fun h => by omega))
    have nX : ¬ (X = r2 ∨ Own M X) := fun h => hnX ((hS1 X).2 h)
    exact ⟨((b27.keeps hK (fun h => h.elim n27 m27)).keeps hk (far _ l27 n27 m27)).cell, ((hG.keeps hK (fun h => h.elim nG mG)).keeps hk (far _ lG nG mG)).cell, (hX.keeps hk nX).cell, by have := ((b35.keeps hK (fun h => h.elim n35 hB)).keeps hk (far _ l35 n35 hB)).cell 0; simpa using this⟩)
  have hS0 : (∀ i : Nat, W.drew.cell? ⟨B27, i, none⟩ = ([.pointer (some ⟨G, 0, none⟩)] : List Value)[i]?) ∧ (∀ i : Nat, W.drew.cell? ⟨G, i, none⟩ = ([.int .i64 s, .map (some r1), .map (some r2), .map (some r3)] : List Value)[i]?) ∧ (∀ i : Nat, W.drew.cell? ⟨X, i, none⟩ = ([.int .i32 x.1, .int .i32 x.2] : List Value)[i]?) ∧ W.drew.cell? ⟨B35, 0, none⟩ = some (.int .u32 (id : Int)) := HSN.out _ (Keeps.refl _ W).drew
  obtain ⟨i0, hi0, hz0, hz1, hz2⟩ := info_parts u32Info
  have HI := Lib.hid (And.intro hK (And.intro hS (And.intro hS1 (And.intro hin (And.intro ho (And.intro hv hl))))))
  have hC1 := (hC.kd ((Keeps.refl (fun _ => False) W).alloc (.cells #[.int .u32 (id : Int)] 31))).kd (Keeps.refl (fun _ => False) _).drew
  obtain ⟨w1, st, v, V, hA2, hk1, hown1, hV, hvo, hput⟩ := hC1.put x id
  simp only [kcl] at hA2
  have HVl : V.length ≤ 1000000 := by
    rcases hV with rfl | ⟨e, he, rfl⟩
    · simp
    · have := hl e he; omega
  have HP := Lib.hid hput
  have HO := Lib.hid (And.intro hown1 (And.intro hvo hk1))
  have HC := Lib.hid hC
  have HV := Lib.hid HVl
  clear hK hS hin hG b27 b35 hM0 n27 nG n35 m27 mG l27 lG l35 hB hX hC hC1 hput hown1 hvo hk1 hV hv hl ho hS1 hin1 hnX HVl hN
  conv => arg 4; whnf
  gi_wp2
  refine region_heldIn (fun W' => (∀ i : Nat, W'.cell? ⟨B27, i, none⟩ = ([.pointer (some ⟨G, 0, none⟩)] : List Value)[i]?) ∧ (∀ i : Nat, W'.cell? ⟨G, i, none⟩ = ([.int .i64 s, .map (some r1), .map (some r2), .map (some r3)] : List Value)[i]?) ∧ (∀ i : Nat, W'.cell? ⟨X, i, none⟩ = ([.int .i32 x.1, .int .i32 x.2] : List Value)[i]?) ∧ W'.cell? ⟨B35, 0, none⟩ = some (.int .u32 (id : Int))) (by kernel_rfl) ?_
  (refine anyHeld_take 0 (v := ?_) (by kernel_rfl) rfl (by kernel_rfl) (by kernel_rfl) (by kernel_rfl) (fun _ _ _ h => h) ⟨Or.inl ⟨by rfl, ?_⟩, fun _ _ _ => trivial⟩ (by with_reducible assumption) ?_; rotate_left; (focus (rintro w ⟨q1, q2, q3, q4⟩; go_simp; try with_reducible rfl))); simp only [Act.put, List.getElem_toArray, List.getElem_cons_succ, List.getElem_cons_zero, List.setIfInBounds_toArray, List.set_cons_zero, List.set_cons_succ]
  (refine anyHeld_take 1 (v := ?_) (by kernel_rfl) rfl (by kernel_rfl) (by kernel_rfl) (by kernel_rfl) (fun _ _ _ h => h) ⟨Or.inl ⟨by rfl, ?_⟩, fun _ _ _ => trivial⟩ (by with_reducible assumption) ?_; rotate_left; (focus (rintro w ⟨q1, q2, q3, q4⟩; go_simp; try with_reducible rfl))); simp only [Act.put, List.getElem_toArray, List.getElem_cons_succ, List.getElem_cons_zero, List.setIfInBounds_toArray, List.set_cons_zero, List.set_cons_succ]
  (refine anyHeld_take 2 (v := ?_) (by kernel_rfl) rfl (by kernel_rfl) (by kernel_rfl) (by kernel_rfl) (fun _ _ _ h => h) ⟨Or.inl ⟨by rfl, ?_⟩, fun _ _ _ => trivial⟩ (by with_reducible assumption) ?_; rotate_left; (focus (rintro w ⟨q1, q2, q3, q4⟩; go_simp; try with_reducible rfl))); simp only [Act.put, List.getElem_toArray, List.getElem_cons_succ, List.getElem_cons_zero, List.setIfInBounds_toArray, List.set_cons_zero, List.set_cons_succ]
  (refine anyHeld_take 3 (v := ?_) (by kernel_rfl) rfl (by kernel_rfl) (by kernel_rfl) (by kernel_rfl) (fun _ _ _ h => h) ⟨Or.inl ⟨by rfl, ?_⟩, fun _ _ _ => trivial⟩ (by with_reducible assumption) ?_; rotate_left; (focus (rintro w ⟨q1, q2, q3, q4⟩; go_simp; try with_reducible rfl))); simp only [Act.put, List.getElem_toArray, List.getElem_cons_succ, List.getElem_cons_zero, List.setIfInBounds_toArray, List.set_cons_zero, List.set_cons_succ]
  (refine anyHeld_take 4 (v := ?_) (by kernel_rfl) rfl (by kernel_rfl) (by kernel_rfl) (by kernel_rfl) (fun _ _ _ h => h) ⟨Or.inl ⟨by rfl, ?_⟩, fun _ _ _ => trivial⟩ (by with_reducible assumption) ?_; rotate_left; (focus (rintro w ⟨q1, q2, q3, q4⟩; go_simp; try with_reducible rfl))); simp only [Act.put, List.getElem_toArray, List.getElem_cons_succ, List.getElem_cons_zero, List.setIfInBounds_toArray, List.set_cons_zero, List.set_cons_succ]
  (refine anyHeld_take 5 (v := ?_) (by kernel_rfl) rfl (by kernel_rfl) (by kernel_rfl) (by kernel_rfl) (fun _ _ _ h => h) ⟨Or.inl ⟨by rfl, ?_⟩, fun _ _ _ => trivial⟩ (by with_reducible assumption) ?_; rotate_left; (focus (rintro w ⟨q1, q2, q3, q4⟩; go_simp; try with_reducible rfl))); simp only [Act.put, List.getElem_toArray, List.getElem_cons_succ, List.getElem_cons_zero, List.setIfInBounds_toArray, List.set_cons_zero, List.set_cons_succ]
  refine anyHeld_one 6 (by kernel_rfl) rfl (by rfl) (fun K hK => ?_)
  go_simp
  refine hK _ _ (HSN.out _ (by repeat (first | exact Keeps.refl _ _ | refine Keeps.alloc ?_ _ | refine Keeps.drew ?_))) ?_
  clear hK
  have hkA : Keeps (fun k => k = r2 ∨ Own M k) W w1 := ((Keeps.refl _ W).alloc _).drew.trans (HO.out.2.2.mono (fun _ _ h => .inl h))
  have hS1 : (∀ i : Nat, w1.cell? ⟨B27, i, none⟩ = ([.pointer (some ⟨G, 0, none⟩)] : List Value)[i]?) ∧ (∀ i : Nat, w1.cell? ⟨G, i, none⟩ = ([.int .i64 s, .map (some r1), .map (some r2), .map (some r3)] : List Value)[i]?) ∧ (∀ i : Nat, w1.cell? ⟨X, i, none⟩ = ([.int .i32 x.1, .int .i32 x.2] : List Value)[i]?) ∧ w1.cell? ⟨B35, 0, none⟩ = some (.int .u32 (id : Int)) := HSN.out _ hkA
  refine anyHeld_one 7 (by kernel_rfl) rfl (by rfl) (fun K hK => ?_)
  go_simp
  refine hK _ _ hS1 ?_
  clear hK hS0
  (refine anyHeld_take 8 (v := ?_) (by kernel_rfl) rfl (by kernel_rfl) (by kernel_rfl) (by kernel_rfl) (fun _ _ _ h => h) ⟨Or.inl ⟨by rfl, ?_⟩, fun _ _ _ => trivial⟩ (by with_reducible assumption) ?_; rotate_left; (focus (rintro w ⟨q1, q2, q3, q4⟩; go_simp; try with_reducible rfl))); simp only [Act.put, List.getElem_toArray, List.getElem_cons_succ, List.getElem_cons_zero, List.setIfInBounds_toArray, List.set_cons_zero, List.set_cons_succ]
  (refine anyHeld_take 10 (v := ?_) (by kernel_rfl) rfl (by kernel_rfl) (by kernel_rfl) (by kernel_rfl) (fun _ _ _ h => h) ⟨Or.inl ⟨by rfl, ?_⟩, fun _ _ _ => trivial⟩ (by with_reducible assumption) ?_; rotate_left; (focus (rintro w ⟨q1, q2, q3, q4⟩; go_simp; try with_reducible rfl))); simp only [Act.put, List.getElem_toArray, List.getElem_cons_succ, List.getElem_cons_zero, List.setIfInBounds_toArray, List.set_cons_zero, List.set_cons_succ]
  have hB := (Blk.new W 31 [.int .u32 (id : Int)]).drew.keeps HO.out.2.2 (fun e => by have := HC.out.lt; omega)
  clear hA2
  refine anyHeld_one 9 (by kernel_rfl) rfl (by rfl) (fun K hK => ?_)
  refine oper_append_own (.tmp 56) (.tmp 58) 41 (by rfl) 0 31 i0 _ 1 4 Try.underlying41 hi0 hz0 hz1 hz2 rfl (by decide) v V.length (vals V) (by rfl) HO.out.1 ⟨W.heap.size, 0, none⟩ 1 1 [.int .u32 (id : Int)] (by rfl) rfl (fun j u hj => by rcases j with _ | j <;> simp at hj; subst hj; simpa [Addr.add] using hB.cell 0) (by simp [Value.oneCell']) (by unfold maxLen; have := HV.out; omega) (by have := HV.out; omega) (Nat.zero_le _) ?_
  intro v' w2 hown hgrow hat
  obtain ⟨w3, M', hst, hk3, hC3, hv3, ho3⟩ := HP.out w2 v' hgrow hown hat
  have hk2 : Keeps (fun k => k = r2 ∨ Own M k) w1 w2 := (Keeps.of_grown hgrow).mono (fun k _ h => .inr (HO.out.2.1 k h.symm))
  have hkB := hkA.then hk2 (fun i hi h => h)
  have hkC := hkB.then hk3 (fun i hi h => .inl h)
  have HF := Lib.hid (And.intro hkC (And.intro hC3 (And.intro hv3 ho3)))
  clear hown hgrow hat hk3 hC3 hv3 ho3 hB
  refine hK _ _ (HSN.out _ hkB) ?_
  clear hK
  simp only [Act.put, List.getElem_toArray, List.getElem_cons_succ, List.getElem_cons_zero, List.setIfInBounds_toArray, List.set_cons_zero, List.set_cons_succ]
  refine anyHeld_one 11 (by kernel_rfl) rfl (by rfl) (fun K hK => ?_)
  go_simp
  refine hK _ _ (HSN.out _ hkC) ?_
  clear hK
  refine anyHeld_done (by kernel_rfl) ?_ _
  gi_wp2
  obtain ⟨hK, hS, hS1', hin, ho, hv, hl⟩ := HI.out
  obtain ⟨hkC, hC3, hv3, ho3⟩ := HF.out
  have hz1 := HO.out.2.2.size
  have hz0 := hK.size
  simp only [World.size_drew, World.size_alloc] at hz1
  have ho4 : ∀ k, Own M' k → Own M k ∨ W.heap.size ≤ k := fun k h => (ho3 k h).imp (fun h => h) (fun e => by omega)
  refine ⟨fun k => k = r2 ∨ Own M' k, ⟨hkC.mono (fun k _ h => (hS k).2 (.inl ((hS1' k).2 h))), fun k hk => ?_⟩, fun k hk => ?_, M', hC3, ?_, fun k h => ?_, ?_, ?_, fun _ => Iff.rfl⟩
  · rcases hk with h | h
    · exact .inl ((hS k).2 (.inl ((hS1' k).2 (.inl h))))
    · exact (ho4 k h).imp (fun h => (hS k).2 (.inl ((hS1' k).2 (.inr h)))) (fun h => h)
  · rcases hk with h | h
    · rw [h]; exact hC3.lt
    · exact hC3.own_lt h
  · rw [hv3, hv, List.foldl_append]; rfl
  · rcases ho4 k h with h | h
    · exact ho k h
    · exact .inr (by omega)
  · exact hK.then hkC (fun i hi h => h.elim .inl (fun h => (ho i h).elim .inr (fun h => by omega)))
  · have : ∀ p ∈ viewE M', p.2.length ≤ (N + pre.length) + 1 := by
      rw [hv3]
      refine addC_len ?_
      intro p hp
      obtain ⟨e, he, rfl⟩ := List.mem_map.1 hp
      exact hl e he
    intro e he
    have := this (e.c, e.ids) (List.mem_map.2 ⟨e, he, rfl⟩)
    simp at this ⊢; omega
end Gs
end Go.Proofs.Ytdbpfbokfmpgcaa
