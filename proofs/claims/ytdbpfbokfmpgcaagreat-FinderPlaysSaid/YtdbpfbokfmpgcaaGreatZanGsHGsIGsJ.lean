/-
GsH: Put: the round.
GsI: a grid; Put.
GsJ: Put where the box is listed in its cells; Put whole.
-/
import Derived.Test.YtdbpfbokfmpgcaaGreatZakGsGGsB
import Derived.Test.YtdbpfbokfmpgcaaGreatZamGsD
import Derived.Test.YtdbpfbokfmpgcaaGreatZaaMemIterTreeAHeldGrowIter
set_option linter.unusedVariables false
set_option linter.unusedSimpArgs false
set_option linter.ambiguousOpen false
set_option maxHeartbeats 16000000
set_option maxRecDepth 100000
attribute [local go_sem] Go.Oper.semAt_some
namespace Go.Proofs.YtdbpfbokfmpgcaaGreat
theorem ZAF {p : Prop} (h : p := by with_reducible assumption) : p := h
theorem ZAJ {p : Prop} (h : p := by first | exact HK6.out | exact hk6.drew | exact HK6.out.drew | exact HK7.out | exact HK7.out.drew | exact HK8.out | (repeat (first | exact Keeps.refl _ _ | refine Keeps.alloc ?_ _ | refine Keeps.drew ?_))) : p := h
theorem ZAP {p : Prop} (h : p := by rfl) : p := h
theorem ZAq {p : Prop} (h : p := by have hX := HN.out W' hk; exact ⟨hX.2.1.cell, hX.2.2.1.cell, hX.2.2.2.cell, hX.1.cell⟩) : p := h
theorem ZA6 {p : Prop} (h : p := by simp [Value.oneCell']) : p := h
theorem ZL {p : Prop} (h : p := by
 rintro ⟨⟨t⟩, d⟩ h1 h2
 simp only [List.size_toArray] at h1 h2
 subst h2
 have h := unroll t 62 h1
 have e : (List.range 62).map (fun i => t.getD i undef) = [t.getD 0 undef, t.getD 1 undef, t.getD 2 undef, t.getD 3 undef, t.getD 4 undef, t.getD 5 undef, t.getD 6 undef, t.getD 7 undef, t.getD 8 undef, t.getD 9 undef, t.getD 10 undef, t.getD 11 undef, t.getD 12 undef, t.getD 13 undef, t.getD 14 undef, t.getD 15 undef, t.getD 16 undef, t.getD 17 undef, t.getD 18 undef, t.getD 19 undef, t.getD 20 undef, t.getD 21 undef, t.getD 22 undef, t.getD 23 undef, t.getD 24 undef, t.getD 25 undef, t.getD 26 undef, t.getD 27 undef, t.getD 28 undef, t.getD 29 undef, t.getD 30 undef, t.getD 31 undef, t.getD 32 undef, t.getD 33 undef, t.getD 34 undef, t.getD 35 undef, t.getD 36 undef, t.getD 37 undef, t.getD 38 undef, t.getD 39 undef, t.getD 40 undef, t.getD 41 undef, t.getD 42 undef, t.getD 43 undef, t.getD 44 undef, t.getD 45 undef, t.getD 46 undef, t.getD 47 undef, t.getD 48 undef, t.getD 49 undef, t.getD 50 undef, t.getD 51 undef, t.getD 52 undef, t.getD 53 undef, t.getD 54 undef, t.getD 55 undef, t.getD 56 undef, t.getD 57 undef, t.getD 58 undef, t.getD 59 undef, t.getD 60 undef, t.getD 61 undef] := rfl
 exact Eq.mpr (congrArg (fun l : List Value => P ⟨⟨l⟩, []⟩) (h.trans e)) (hP (t.getD 0 undef) (t.getD 1 undef) (t.getD 2 undef) (t.getD 3 undef) (t.getD 4 undef) (t.getD 5 undef) (t.getD 6 undef) (t.getD 7 undef) (t.getD 8 undef) (t.getD 9 undef) (t.getD 10 undef) (t.getD 11 undef) (t.getD 12 undef) (t.getD 13 undef) (t.getD 14 undef) (t.getD 15 undef) (t.getD 16 undef) (t.getD 17 undef) (t.getD 18 undef) (t.getD 19 undef) (t.getD 20 undef) (t.getD 21 undef) (t.getD 22 undef) (t.getD 23 undef) (t.getD 24 undef) (t.getD 25 undef) (t.getD 26 undef) (t.getD 27 undef) (t.getD 28 undef) (t.getD 29 undef) (t.getD 30 undef) (t.getD 31 undef) (t.getD 32 undef) (t.getD 33 undef) (t.getD 34 undef) (t.getD 35 undef) (t.getD 36 undef) (t.getD 37 undef) (t.getD 38 undef) (t.getD 39 undef) (t.getD 40 undef) (t.getD 41 undef) (t.getD 42 undef) (t.getD 43 undef) (t.getD 44 undef) (t.getD 45 undef) (t.getD 46 undef) (t.getD 47 undef) (t.getD 48 undef) (t.getD 49 undef) (t.getD 50 undef) (t.getD 51 undef) (t.getD 52 undef) (t.getD 53 undef) (t.getD 54 undef) (t.getD 55 undef) (t.getD 56 undef) (t.getD 57 undef) (t.getD 58 undef) (t.getD 59 undef) (t.getD 60 undef) (t.getD 61 undef))) : p := h
open Go.RowKit Go.Shelf
namespace Gs
open Mem Gr
open So (vals)
theorem u32Info : (Tryz.prog.info? 35).map (fun i => (i.zero, i.size, i.bytes)) = some (some (.int .u32 0), 1, 4) := by kernel_rfl
theorem info_parts {P : Program} {t : TypeId} {z : Option Value} {s b : Nat} (h : (P.info? t).map (fun i => (i.zero, i.size, i.bytes)) = some (z, s, b)) : ∃ i, P.info? t = some i ∧ i.zero = z ∧ i.size = s ∧ i.bytes = b := by
 cases hi : P.info? t with
 | none => rw [hi] at h; cases h
 | some i => rw [hi] at h; simp at h; exact ⟨i, rfl, h.1, h.2.1, h.2.2⟩
theorem frames62 {P : Act → Prop} (hP : ∀ u0 u1 u2 u3 u4 u5 u6 u7 u8 u9 u10 u11 u12 u13 u14 u15 u16 u17 u18 u19 u20 u21 u22 u23 u24 u25 u26 u27 u28 u29 u30 u31 u32 u33 u34 u35 u36 u37 u38 u39 u40 u41 u42 u43 u44 u45 u46 u47 u48 u49 u50 u51 u52 u53 u54 u55 u56 u57 u58 u59 u60 u61 : Value, P ⟨#[u0, u1, u2, u3, u4, u5, u6, u7, u8, u9, u10, u11, u12, u13, u14, u15, u16, u17, u18, u19, u20, u21, u22, u23, u24, u25, u26, u27, u28, u29, u30, u31, u32, u33, u34, u35, u36, u37, u38, u39, u40, u41, u42, u43, u44, u45, u46, u47, u48, u49, u50, u51, u52, u53, u54, u55, u56, u57, u58, u59, u60, u61], []⟩) : ∀ a : Act, a.tmps.size = 62 → a.defers = [] → P a := by
 exact ZL
noncomputable def putBody : Code := (rbods (Tryz.f121.body.getD .skip)).getD 0 .skip
theorem addC_len {id : Nat} {c : Int × Int} : ∀ {C : List ((Int × Int) × List Nat)} {n : Nat}, (∀ e ∈ C, e.2.length ≤ n) → ∀ e ∈ addC id C c, e.2.length ≤ n + 1
 | [], n, _, e, he => by simp [addC] at he; subst he; simp
 | x :: L, n, h, e, he => by
  rw [addC] at he
  split at he
  ·rcases List.mem_cons.1 he with rfl | he
   ·have := h x ZA7; simp; omega
   ·have := h e ZAz; omega
  ·rcases List.mem_cons.1 he with rfl | he
   ·have := h e ZA7; omega
   ·exact addC_len (fun y hy => h y (by simp [hy])) e he
def PutI (W0 : World) (r2 : Nat) (M0 : List CE) (id N : Nat) (pre : List Cl) (S : Nat → Prop) (W : World) : Prop :=
 ∃ M, CellsM W r2 M ∧ viewE M = pre.foldl (addC id) (viewE M0) ∧ (∀ k, Own M k → Own M0 k ∨ W0.heap.size ≤ k) ∧ Keeps (fun k => k = r2 ∨ Own M0 k) W0 W ∧ (∀ e ∈ M, e.ids.length ≤ N + pre.length) ∧ ∀ k, S k ↔ k = r2 ∨ Own M k
theorem puti_stab (W0 : World) (r2 : Nat) (M0 : List CE) (id N : Nat) : Stab W0.heap.size (PutI W0 r2 M0 id N) := by
 intro pre S T W W' ⟨M, h1, h2, h3, h4, h5, h6⟩ hin hk hd ht
 exact ⟨M, h1.keeps hk (hd _ ((h6 _).2 (.inl rfl))) (fun k h => hd _ ((h6 _).2 (.inr h))), h2, h3, h4.then hk (fun i hi hT => absurd (ht i hT) Z8), h5, h6⟩
def PutM (W0 : World) (r2 : Nat) (M0 : List CE) (id N B27 B35 : Nat) (s : List Cl × Cl × Act) (S : Nat → Prop) (W : World) : Prop :=
 ∃ X S1, Fr s.2.2 62 [(3, .pointer (some ⟨B27, 0, none⟩)), (4, .pointer (some ⟨B35, 0, none⟩)), (9, .pointer (some ⟨X, 0, none⟩))] ∧ Blk W X 181 [.int .i32 s.2.1.1, .int .i32 s.2.1.2] ∧ PutI W0 r2 M0 id N s.1 S1 W ∧ Inb S1 W ∧ ¬ S1 X ∧ ∀ k, S k ↔ S1 k ∨ k = X
theorem putm_stab (W0 : World) (r2 : Nat) (M0 : List CE) (id N B27 B35 : Nat) : Stab W0.heap.size (PutM W0 r2 M0 id N B27 B35) := by
 intro s S T W W' ⟨X, S1, hF, h1, h2, h3, h4, h5⟩ hin hk hd ht
 exact ⟨X, S1, hF, h1.keeps hk (hd _ ((h5 _).2 (.inr rfl))), puti_stab W0 r2 M0 id N s.1 S1 T W W' h2 h3 hk (fun k h => hd k ((h5 k).2 (.inl h))) ht, h3.mono hk.size, h4, h5⟩
theorem put_round (l : Nat) (W0 : World) (G r1 r2 r3 B27 B35 id N : Nat) (s : Int) (M0 : List CE) (hG : Blk W0 G 84 [.int .i64 s, .map (some r1), .map (some r2), .map (some r3)]) (b27 : Blk W0 B27 64 [.pointer (some ⟨G, 0, none⟩)]) (b35 : Blk W0 B35 35 [.int .u32 (id : Int)]) (hM0 : CellsM W0 r2 M0) (hB : ¬ Own M0 B35)
 (pre : List Cl) (x : Cl) (hN : N + pre.length ≤ 1000000) (S : Nat → Prop) (W : World) (a : Act) (hM : PutM W0 r2 M0 id N B27 B35 (pre, x, a) S W) (hin : Inb S W) : putBody.wpIn (Fence.wide.inRound l) 7 Tryz.prog (Mem.Left (PutI W0 r2 M0 id N) (fun _ _ _ _ => False) (pre ++ [x]) S W) a W := by
 obtain ⟨X, S1, hF, hX, ⟨M, hC, hv, ho, hK, hl, hS1⟩, hin1, hnX, hS⟩ := hM
 simp only at hF hX hv hl
 revert hF
 refine fun hF => frames62 (P := fun a => Fr a 62 [(3, .pointer (some ⟨B27, 0, none⟩)), (4, .pointer (some ⟨B35, 0, none⟩)), (9, .pointer (some ⟨X, 0, none⟩))] → putBody.wpIn (Fence.wide.inRound l) 7 Tryz.prog (Mem.Left (PutI W0 r2 M0 id N) (fun _ _ _ _ => False) (pre ++ [x]) S W) a W) ?_ a hF.1 hF.2.1 hF
 intro u0 u1 u2 u3 u4 u5 u6 u7 u8 u9 u10 u11 u12 u13 u14 u15 u16 u17 u18 u19 u20 u21 u22 u23 u24 u25 u26 u27 u28 u29 u30 u31 u32 u33 u34 u35 u36 u37 u38 u39 u40 u41 u42 u43 u44 u45 u46 u47 u48 u49 u50 u51 u52 u53 u54 u55 u56 u57 u58 u59 u60 u61 hF
 obtain rfl : u3 = .pointer (some ⟨B27, 0, none⟩) := hF.at_ 3 _ ZA7
 obtain rfl : u4 = .pointer (some ⟨B35, 0, none⟩) := hF.at_ 4 _ ZA7
 obtain rfl : u9 = .pointer (some ⟨X, 0, none⟩) := hF.at_ 9 _ ZA7
 clear hF
 have n27 := hM0.ne b27
 have nG := hM0.ne hG
 have n35 := hM0.ne b35
 have m27 : ¬ Own M0 B27 := hM0.ne_own b27 ZAH
 have mG : ¬ Own M0 G := hM0.ne_own hG ZAH
 have l27 := b27.lt
 have lG := hG.lt
 have l35 := b35.lt
 have HSN := Lib.hid (show ∀ W', Keeps (fun k => k = r2 ∨ Own M k) W W' → (∀ i : Nat, W'.cell? ⟨B27, i, none⟩ = ([.pointer (some ⟨G, 0, none⟩)] : List Value)[i]?) ∧ (∀ i : Nat, W'.cell? ⟨G, i, none⟩ = ([.int .i64 s, .map (some r1), .map (some r2), .map (some r3)] : List Value)[i]?) ∧ (∀ i : Nat, W'.cell? ⟨X, i, none⟩ = ([.int .i32 x.1, .int .i32 x.2] : List Value)[i]?) ∧ W'.cell? ⟨B35, 0, none⟩ = some (.int .u32 (id : Int)) from fun W' hk => by
  have far : ∀ k, k < W0.heap.size → k ≠ r2 → ¬ Own M0 k → ¬ (k = r2 ∨ Own M k) := fun k h1 h2 h3 h => h.elim h2 (fun h => (ho k h).elim h3 (fun h => Z8))
  have nX : ¬ (X = r2 ∨ Own M X) := fun h => hnX ((hS1 X).2 h)
  exact ⟨((b27.keeps hK (fun h => h.elim n27 m27)).keeps hk (far _ l27 n27 m27)).cell, ((hG.keeps hK (fun h => h.elim nG mG)).keeps hk (far _ lG nG mG)).cell, (hX.keeps hk nX).cell, by have := ((b35.keeps hK (fun h => h.elim n35 hB)).keeps hk (far _ l35 n35 hB)).cell 0; simpa using this⟩)
 have hS0 : (∀ i : Nat, W.drew.cell? ⟨B27, i, none⟩ = ([.pointer (some ⟨G, 0, none⟩)] : List Value)[i]?) ∧ (∀ i : Nat, W.drew.cell? ⟨G, i, none⟩ = ([.int .i64 s, .map (some r1), .map (some r2), .map (some r3)] : List Value)[i]?) ∧ (∀ i : Nat, W.drew.cell? ⟨X, i, none⟩ = ([.int .i32 x.1, .int .i32 x.2] : List Value)[i]?) ∧ W.drew.cell? ⟨B35, 0, none⟩ = some (.int .u32 (id : Int)) := HSN.out _ (Keeps.refl _ W).drew
 obtain ⟨i0, hi0, hz0, hz1, hz2⟩ := info_parts u32Info
 have HI := Lib.hid (And.intro hK (And.intro hS (And.intro hS1 (And.intro hin (And.intro ho (And.intro hv hl))))))
 have hC1 := (hC.kd ((Keeps.refl (fun _ => False) W).alloc (.cells #[.int .u32 (id : Int)] 35))).kd (Keeps.refl (fun _ => False) _).drew
 obtain ⟨w1, st, v, V, hA2, hk1, hown1, hV, hvo, hput⟩ := hC1.put x id
 simp only [kcl] at hA2
 have HVl : V.length ≤ 1000000 := by
  rcases hV with rfl | ⟨e, he, rfl⟩
  ·simp
  ·have := hl e he; omega
 have HP := Lib.hid hput
 have HO := Lib.hid (And.intro hown1 (And.intro hvo hk1))
 have HC := Lib.hid hC
 have HV := Lib.hid HVl
 clear hK hS hin hG b27 b35 hM0 n27 nG n35 m27 mG l27 lG l35 hB hX hC hC1 hput hown1 hvo hk1 hV hv hl ho hS1 hin1 hnX HVl hN
 conv => arg 4; whnf
 gi_wp2
 refine region_heldIn (fun W' => (∀ i : Nat, W'.cell? ⟨B27, i, none⟩ = ([.pointer (some ⟨G, 0, none⟩)] : List Value)[i]?) ∧ (∀ i : Nat, W'.cell? ⟨G, i, none⟩ = ([.int .i64 s, .map (some r1), .map (some r2), .map (some r3)] : List Value)[i]?) ∧ (∀ i : Nat, W'.cell? ⟨X, i, none⟩ = ([.int .i32 x.1, .int .i32 x.2] : List Value)[i]?) ∧ W'.cell? ⟨B35, 0, none⟩ = some (.int .u32 (id : Int))) ZAB ?_
 (refine anyHeld_take 0 (v := ?_) ZAB rfl ZAB ZAB ZAB (fun _ _ _ h => h) ⟨Or.inl ⟨ZAP, ?_⟩, fun _ _ _ => trivial⟩ ZAF ?_; rotate_left; (focus (rintro w ⟨q1, q2, q3, q4⟩; go_simp; try with_reducible rfl))); simp only [Act.put, List.getElem_toArray, List.getElem_cons_succ, List.getElem_cons_zero, List.setIfInBounds_toArray, List.set_cons_zero, List.set_cons_succ]
 (refine anyHeld_take 1 (v := ?_) ZAB rfl ZAB ZAB ZAB (fun _ _ _ h => h) ⟨Or.inl ⟨ZAP, ?_⟩, fun _ _ _ => trivial⟩ ZAF ?_; rotate_left; (focus (rintro w ⟨q1, q2, q3, q4⟩; go_simp; try with_reducible rfl))); simp only [Act.put, List.getElem_toArray, List.getElem_cons_succ, List.getElem_cons_zero, List.setIfInBounds_toArray, List.set_cons_zero, List.set_cons_succ]
 (refine anyHeld_take 2 (v := ?_) ZAB rfl ZAB ZAB ZAB (fun _ _ _ h => h) ⟨Or.inl ⟨ZAP, ?_⟩, fun _ _ _ => trivial⟩ ZAF ?_; rotate_left; (focus (rintro w ⟨q1, q2, q3, q4⟩; go_simp; try with_reducible rfl))); simp only [Act.put, List.getElem_toArray, List.getElem_cons_succ, List.getElem_cons_zero, List.setIfInBounds_toArray, List.set_cons_zero, List.set_cons_succ]
 (refine anyHeld_take 3 (v := ?_) ZAB rfl ZAB ZAB ZAB (fun _ _ _ h => h) ⟨Or.inl ⟨ZAP, ?_⟩, fun _ _ _ => trivial⟩ ZAF ?_; rotate_left; (focus (rintro w ⟨q1, q2, q3, q4⟩; go_simp; try with_reducible rfl))); simp only [Act.put, List.getElem_toArray, List.getElem_cons_succ, List.getElem_cons_zero, List.setIfInBounds_toArray, List.set_cons_zero, List.set_cons_succ]
 (refine anyHeld_take 4 (v := ?_) ZAB rfl ZAB ZAB ZAB (fun _ _ _ h => h) ⟨Or.inl ⟨ZAP, ?_⟩, fun _ _ _ => trivial⟩ ZAF ?_; rotate_left; (focus (rintro w ⟨q1, q2, q3, q4⟩; go_simp; try with_reducible rfl))); simp only [Act.put, List.getElem_toArray, List.getElem_cons_succ, List.getElem_cons_zero, List.setIfInBounds_toArray, List.set_cons_zero, List.set_cons_succ]
 (refine anyHeld_take 5 (v := ?_) ZAB rfl ZAB ZAB ZAB (fun _ _ _ h => h) ⟨Or.inl ⟨ZAP, ?_⟩, fun _ _ _ => trivial⟩ ZAF ?_; rotate_left; (focus (rintro w ⟨q1, q2, q3, q4⟩; go_simp; try with_reducible rfl))); simp only [Act.put, List.getElem_toArray, List.getElem_cons_succ, List.getElem_cons_zero, List.setIfInBounds_toArray, List.set_cons_zero, List.set_cons_succ]
 refine anyHeld_one 6 ZAB rfl ZAP (fun K hK => ?_)
 go_simp
 refine hK _ _ (HSN.out _ (by repeat (first | exact Keeps.refl _ _ | refine Keeps.alloc ?_ _ | refine Keeps.drew ?_))) ?_
 clear hK
 have hkA : Keeps (fun k => k = r2 ∨ Own M k) W w1 := ((Keeps.refl _ W).alloc _).drew.trans (HO.out.2.2.mono (fun _ _ h => .inl h))
 have hS1 : (∀ i : Nat, w1.cell? ⟨B27, i, none⟩ = ([.pointer (some ⟨G, 0, none⟩)] : List Value)[i]?) ∧ (∀ i : Nat, w1.cell? ⟨G, i, none⟩ = ([.int .i64 s, .map (some r1), .map (some r2), .map (some r3)] : List Value)[i]?) ∧ (∀ i : Nat, w1.cell? ⟨X, i, none⟩ = ([.int .i32 x.1, .int .i32 x.2] : List Value)[i]?) ∧ w1.cell? ⟨B35, 0, none⟩ = some (.int .u32 (id : Int)) := HSN.out _ hkA
 refine anyHeld_one 7 ZAB rfl ZAP (fun K hK => ?_)
 go_simp
 refine hK _ _ hS1 ?_
 clear hK hS0
 (refine anyHeld_take 8 (v := ?_) ZAB rfl ZAB ZAB ZAB (fun _ _ _ h => h) ⟨Or.inl ⟨ZAP, ?_⟩, fun _ _ _ => trivial⟩ ZAF ?_; rotate_left; (focus (rintro w ⟨q1, q2, q3, q4⟩; go_simp; try with_reducible rfl))); simp only [Act.put, List.getElem_toArray, List.getElem_cons_succ, List.getElem_cons_zero, List.setIfInBounds_toArray, List.set_cons_zero, List.set_cons_succ]
 (refine anyHeld_take 10 (v := ?_) ZAB rfl ZAB ZAB ZAB (fun _ _ _ h => h) ⟨Or.inl ⟨ZAP, ?_⟩, fun _ _ _ => trivial⟩ ZAF ?_; rotate_left; (focus (rintro w ⟨q1, q2, q3, q4⟩; go_simp; try with_reducible rfl))); simp only [Act.put, List.getElem_toArray, List.getElem_cons_succ, List.getElem_cons_zero, List.setIfInBounds_toArray, List.set_cons_zero, List.set_cons_succ]
 have hB := (Blk.new W 35 [.int .u32 (id : Int)]).drew.keeps HO.out.2.2 (fun e => by have := HC.out.lt; omega)
 clear hA2
 refine anyHeld_one 9 ZAB rfl ZAP (fun K hK => ?_)
 refine oper_append_own (.tmp 56) (.tmp 58) 45 ZAP 0 35 i0 _ 1 4 Tryz.underlying45 hi0 hz0 hz1 hz2 rfl ZAH v V.length (vals V) ZAP HO.out.1 ⟨W.heap.size, 0, none⟩ 1 1 [.int .u32 (id : Int)] ZAP rfl (fun j u hj => by rcases j with _ | j <;> simp at hj; subst hj; simpa [Addr.add] using hB.cell 0) ZA6 (by unfold maxLen; have := HV.out; omega) (by have := HV.out; omega) (Nat.zero_le _) ?_
 intro v' w2 hown hgrow hat
 obtain ⟨w3, M', hst, hk3, hC3, hv3, ho3⟩ := HP.out w2 v' hgrow hown hat
 have hk2 : Keeps (fun k => k = r2 ∨ Own M k) w1 w2 := (Keeps.of_grown hgrow).mono (fun k _ h => .inr (HO.out.2.1 k h.symm))
 have hkB := hkA.then hk2 (fun i hi h => h)
 have hkC := hkB.then hk3 (fun i hi h => .inl h)
 have HF := Lib.hid (And.intro hkC (And.intro hC3 (And.intro hv3 ho3)))
 clear hown hgrow hat hk3 hC3 hv3 ho3 hB
 refine hK _ _ (HSN.out _ hkB) ?_
 clear hK
 simp only [Act.put, List.getElem_toArray, List.getElem_cons_succ, List.getElem_cons_zero, List.setIfInBounds_toArray, List.set_cons_zero, List.set_cons_succ]
 refine anyHeld_one 11 ZAB rfl ZAP (fun K hK => ?_)
 go_simp
 refine hK _ _ (HSN.out _ hkC) ?_
 clear hK
 refine anyHeld_done ZAB ?_ _
 gi_wp2
 obtain ⟨hK, hS, hS1', hin, ho, hv, hl⟩ := HI.out
 obtain ⟨hkC, hC3, hv3, ho3⟩ := HF.out
 have hz1 := HO.out.2.2.size
 have hz0 := hK.size
 simp only [World.size_drew, World.size_alloc] at hz1
 have ho4 : ∀ k, Own M' k → Own M k ∨ W.heap.size ≤ k := fun k h => (ho3 k h).imp (fun h => h) (fun e => Z8)
 refine ⟨fun k => k = r2 ∨ Own M' k, ⟨hkC.mono (fun k _ h => (hS k).2 (.inl ((hS1' k).2 h))), fun k hk => ?_⟩, fun k hk => ?_, M', hC3, ?_, fun k h => ?_, ?_, ?_, fun _ => Iff.rfl⟩
 ·rcases hk with h | h
  ·exact .inl ((hS k).2 (.inl ((hS1' k).2 (.inl h))))
  ·exact (ho4 k h).imp (fun h => (hS k).2 (.inl ((hS1' k).2 (.inr h)))) (fun h => h)
 ·rcases hk with h | h
  ·rw [h]; exact hC3.lt
  ·exact hC3.own_lt h
 ·rw [hv3, hv, List.foldl_append]; rfl
 ·rcases ho4 k h with h | h
  ·exact ho k h
  ·exact .inr Z8
 ·exact hK.then hkC (fun i hi h => h.elim .inl (fun h => (ho i h).elim .inr (fun h => Z8)))
 ·have : ∀ p ∈ viewE M', p.2.length ≤ (N + pre.length) + 1 := by
   rw [hv3]
   refine addC_len ?_
   intro p hp
   obtain ⟨e, he, rfl⟩ := List.mem_map.1 hp
   exact hl e he
  intro e he
  have := this (e.c, e.ids) (List.mem_map.2 ⟨e, he, rfl⟩)
  simp at this ⊢; omega
end Gs
open Go.RowKit Go.Shelf
namespace Gs
open Mem Gr
def kvB (L : List (Nat × Bx)) : List (Nat × Value) := L.map fun p => (p.1, p.2.val)
def kvA (A : List Nat) : List (Nat × Value) := A.map fun a => (a, .bool true)
def hasB (L : List (Nat × Bx)) (id : Nat) : Bool := L.any fun p => p.1 == id
structure GridM (w : World) (G r1 r2 r3 : Nat) (s : Int) (L : List (Nat × Bx)) (A : List Nat) (M : List CE) : Prop where
 blk : Blk w G 84 [.int .i64 s, .map (some r1), .map (some r2), .map (some r3)]
 m1 : MapL kid w r1 (kvB L)
 m2 : CellsM w r2 M
 m3 : MapL kid w r3 (kvA A)
 d12 : r1 ≠ r2
 d13 : r1 ≠ r3
 d23 : r2 ≠ r3
def FpG (r1 r2 r3 : Nat) (M : List CE) (k : Nat) : Prop := k = r1 ∨ k = r2 ∨ k = r3 ∨ Own M k
section
variable {w w' : World} {G r1 r2 r3 : Nat} {s : Int} {L : List (Nat × Bx)} {A : List Nat} {M : List CE}
theorem mapL_own {α : Type} [DecidableEq α] {kv : α → Value} {r : Nat} {L : List (α × Value)} (h : MapL kv w r L) (hM : CellsM w r2 M) : ¬ Own M r := by
 rintro ⟨e, he, rfl⟩
 exact h.own_ne (hM.own e he) (by simp [CE.sl, Value.ownBlock])
theorem GridM.keeps {S : Nat → Prop} (h : GridM w G r1 r2 r3 s L A M) (hk : Keeps S w w') (hG : ¬ S G) (hf : ∀ k, FpG r1 r2 r3 M k → ¬ S k) : GridM w' G r1 r2 r3 s L A M :=
 ⟨h.blk.keeps hk hG, h.m1.keeps hk (hf _ (.inl rfl)), h.m2.keeps hk (hf _ (.inr (.inl rfl))) (fun k h => hf k (.inr (.inr (.inr h)))), h.m3.keeps hk (hf _ (.inr (.inr (.inl rfl)))), h.d12, h.d13, h.d23⟩
theorem GridM.kd (h : GridM w G r1 r2 r3 s L A M) (hk : Keeps (fun _ => False) w w') : GridM w' G r1 r2 r3 s L A M := h.keeps hk (fun h => h) (fun _ _ h => h)
theorem GridM.fp_lt (h : GridM w G r1 r2 r3 s L A M) {k : Nat} (hk : FpG r1 r2 r3 M k) : k < w.heap.size := by
 rcases hk with rfl | rfl | rfl | hk
 ·exact h.m1.lt
 ·exact h.m2.lt
 ·exact h.m3.lt
 ·exact h.m2.own_lt hk
theorem GridM.G_fp (h : GridM w G r1 r2 r3 s L A M) : ¬ FpG r1 r2 r3 M G := by
 rintro (e | e | e | e)
 ·exact h.m1.ne h.blk e
 ·exact h.m2.ne h.blk e
 ·exact h.m3.ne h.blk e
 ·exact h.m2.ne_own h.blk ZAH e
theorem hasB_look (L : List (Nat × Bx)) (id : Nat) : (lookK id (kvB L)).isSome = hasB L id := by
 induction L with
 | nil => rfl
 | cons p L ih =>
  show (lookK id ((p.1, p.2.val) :: kvB L)).isSome = _
  rw [lookK]
  by_cases h : p.1 = id
  ·simp [h, hasB]
  ·rw [if_neg h, ih]; simp [hasB, h]
theorem there_t (w : World) (h : Blk w G 84 [.int .i64 s, .map (some r1), .map (some r2), .map (some r3)]) : Calls Tryz.prog 122 #[.pointer (some ⟨G, 0, none⟩)] w fun e w' => e = .returned (.bool true) ∧ w = w' := by
 have hm := neq_map r1
 have c := h.cell
 clear h
 go_enter Tryz.func122, Tryz.ntmps122
 go_wp2
 go_ret
 exact ⟨rfl, rfl⟩
end
def putS (s : Int) (id : Nat) (b : Bx) (L : List (Nat × Bx)) (A : List Nat) (C : List (Cl × List Nat)) : List (Nat × Bx) × List Nat × List (Cl × List Nat) :=
 if ¬ Right b then (L, A, C) else if hasB L id = true then (L, A, C) else if cnt s b > 1024 then (L ++ [(id, b)], A ++ [id], C) else (L ++ [(id, b)], A, (coverL s b).foldl (addC id) C)
def putE (id : Nat) (b : Bx) (L : List (Nat × Bx)) : Int := if ¬ Right b then 142 else if hasB L id = true then 140 else 0
theorem put_wrong (w : World) (G r1 r2 r3 : Nat) (s : Int) (L : List (Nat × Bx)) (A : List Nat) (M : List CE) (h : GridM w G r1 r2 r3 s L A M) (id : Nat) (b : Bx) (hb : ¬ Right b) : Calls Tryz.prog 121 #[.pointer (some ⟨G, 0, none⟩), .int .u32 (id : Int), .agg #[.int .i32 b.x0, .int .i32 b.y0, .int .i32 b.x1, .int .i32 b.y1]] w (fun e w' => ∃ L' A' M', e = .returned (.int .i64 (putE id b L)) ∧ GridM w' G r1 r2 r3 s L' A' M' ∧ (L', A', viewE M') = putS s id b L A (viewE M) ∧ Keeps (FpG r1 r2 r3 M) w w' ∧ ∀ k, Own M' k → Own M k ∨ w.heap.size ≤ k) := by
 have k3 : Keeps (fun _ => False) w (((w.alloc (.cells #[.pointer (some ⟨G, 0, none⟩)] 64)).alloc (.cells #[.int .u32 (id : Int)] 35)).alloc (.cells #[.int .i32 b.x0, .int .i32 b.y0, .int .i32 b.x1, .int .i32 b.y1] 39)) := by (repeat (first | exact Keeps.refl _ _ | refine Keeps.alloc ?_ _ | refine Keeps.drew ?_))
 have HT := Lib.hid (h.blk.keeps k3 (fun h => h))
 have z := right_t b
 simp only [hb, decide_false] at z
 have HG := Lib.hid (And.intro h hb)
 clear h hb
 have HK := Lib.hid k3
 clear k3
 refine (callsIn_wide (n := 9)).1 ?_
 refine callsIn_of_wp_marks Tryz.func121 rfl trivial ?_ rfl
 simp only [Tryz.ntmps121, List.size_toArray, List.length_cons, List.length_nil, Nat.reduceAdd, Nat.reduceSub, Array.replicate_succ, Array.replicate_zero, List.push_toArray, List.append_toArray, List.nil_append, List.cons_append]
 gi_wp2_with (first
  | (refine ⟨trivial, ?_⟩; gi_at_call 122; refine (callsIn_wide.2 (there_t _ HT.out)).mono ?_; rintro e w1 ⟨rfl, rfl⟩)
  | (refine ⟨trivial, ?_⟩; gi_at_call 130; refine (callsIn_wide.2 (z _)).mono ?_; rintro e w4 ⟨rfl, k4⟩; have HK4 := Lib.hid (HK.out.trans k4); clear k4))
 refine ⟨_, results_tmp rfl _ _ _, L, A, M, ?_, HG.out.1.kd HK4.out, ?_, HK4.out.mono (fun _ _ h => h.elim), fun k h => .inl h⟩
 ·simp [putE, HG.out.2]
 ·simp [putS, HG.out.2]
theorem look_box {W : World} {r : Nat} {L : List (Nat × Bx)} (h : MapL kid W r (kvB L)) (id : Nat) : (Instr.lookup 60 (.map (some r)) (.int .u32 (id : Int)) true).run Tryz.prog W = .ok (.tuple #[(lookK id (kvB L)).getD (Value.agg #[.int .i32 0, .int .i32 0, .int .i32 0, .int .i32 0]), .bool (hasB L id)]) W := by
 have := h.look keyid Tryz.underlying60 zv37 id true
 rw [hasB_look] at this
 simpa [kid] using this
theorem look_val (L : List (Nat × Bx)) (id : Nat) : ∃ b0 : Bx, (lookK id (kvB L)).getD (Value.agg #[.int .i32 0, .int .i32 0, .int .i32 0, .int .i32 0]) = b0.val := by
 cases h : lookK id (kvB L) with
 | none => exact ⟨⟨0, 0, 0, 0⟩, rfl⟩
 | some v =>
  have := lookK_some h
  obtain ⟨p, hp, e⟩ := List.mem_map.1 this
  exact ⟨p.2, (Prod.mk.inj e).2.symm⟩
theorem put_facts {w w4 : World} {G r1 r2 r3 : Nat} {s : Int} {L : List (Nat × Bx)} {A : List Nat} {M : List CE} (h : GridM w G r1 r2 r3 s L A M) (id : Nat) (b : Bx) (k4 : Keeps (fun _ => False) (((w.alloc (.cells #[.pointer (some ⟨G, 0, none⟩)] 64)).alloc (.cells #[.int .u32 (id : Int)] 35)).alloc (.cells #[.int .i32 b.x0, .int .i32 b.y0, .int .i32 b.x1, .int .i32 b.y1] 39)) w4) :
 ∀ W', Keeps (FpG r1 r2 r3 M) w4 W' → Blk W' G 84 [.int .i64 s, .map (some r1), .map (some r2), .map (some r3)] ∧ Blk W' w.heap.size 64 [.pointer (some ⟨G, 0, none⟩)] ∧ Blk W' (w.heap.size + 1) 35 [.int .u32 (id : Int)] ∧ Blk W' (w.heap.size + 1 + 1) 39 [.int .i32 b.x0, .int .i32 b.y0, .int .i32 b.x1, .int .i32 b.y1] := by
 intro W' hk
 have k3 : Keeps (fun _ => False) w (((w.alloc (.cells #[.pointer (some ⟨G, 0, none⟩)] 64)).alloc (.cells #[.int .u32 (id : Int)] 35)).alloc (.cells #[.int .i32 b.x0, .int .i32 b.y0, .int .i32 b.x1, .int .i32 b.y1] 39)) := by (repeat (first | exact Keeps.refl _ _ | refine Keeps.alloc ?_ _ | refine Keeps.drew ?_))
 have b27 := ((Blk.new w 64 [.pointer (some ⟨G, 0, none⟩)]).alloc (.cells #[.int .u32 (id : Int)] 35)).alloc (.cells #[.int .i32 b.x0, .int .i32 b.y0, .int .i32 b.x1, .int .i32 b.y1] 39)
 have b35 := (Blk.new (w.alloc (.cells #[.pointer (some ⟨G, 0, none⟩)] 64)) 35 [.int .u32 (id : Int)]).alloc (.cells #[.int .i32 b.x0, .int .i32 b.y0, .int .i32 b.x1, .int .i32 b.y1] 39)
 have b37 := Blk.new ((w.alloc (.cells #[.pointer (some ⟨G, 0, none⟩)] 64)).alloc (.cells #[.int .u32 (id : Int)] 35)) 39 [.int .i32 b.x0, .int .i32 b.y0, .int .i32 b.x1, .int .i32 b.y1]
 simp only [World.size_alloc] at b27 b35 b37
 have hn : ∀ k, w.heap.size ≤ k → ¬ FpG r1 r2 r3 M k := fun k hk he => by have := h.fp_lt he; omega
 exact ⟨((h.blk.keeps k3 (fun h => h)).keeps k4 (fun h => h)).keeps hk h.G_fp, (b27.keeps k4 (fun h => h)).keeps hk (hn _ (Nat.le_refl _)), (b35.keeps k4 (fun h => h)).keeps hk (hn _ Z8), (b37.keeps k4 (fun h => h)).keeps hk (hn _ Z8)⟩
theorem put_there (w : World) (G r1 r2 r3 : Nat) (s : Int) (L : List (Nat × Bx)) (A : List Nat) (M : List CE) (h : GridM w G r1 r2 r3 s L A M) (id : Nat) (b : Bx) (hb : Right b) (hh : hasB L id = true) : Calls Tryz.prog 121 #[.pointer (some ⟨G, 0, none⟩), .int .u32 (id : Int), .agg #[.int .i32 b.x0, .int .i32 b.y0, .int .i32 b.x1, .int .i32 b.y1]] w (fun e w' => ∃ L' A' M', e = .returned (.int .i64 (putE id b L)) ∧ GridM w' G r1 r2 r3 s L' A' M' ∧ (L', A', viewE M') = putS s id b L A (viewE M) ∧ Keeps (FpG r1 r2 r3 M) w w' ∧ ∀ k, Own M' k → Own M k ∨ w.heap.size ≤ k) := by
 have k3 : Keeps (fun _ => False) w (((w.alloc (.cells #[.pointer (some ⟨G, 0, none⟩)] 64)).alloc (.cells #[.int .u32 (id : Int)] 35)).alloc (.cells #[.int .i32 b.x0, .int .i32 b.y0, .int .i32 b.x1, .int .i32 b.y1] 39)) := by (repeat (first | exact Keeps.refl _ _ | refine Keeps.alloc ?_ _ | refine Keeps.drew ?_))
 have HT := Lib.hid (h.blk.keeps k3 (fun h => h))
 have z := right_t b
 simp only [hb, decide_true] at z
 have HG := Lib.hid (And.intro h (And.intro hb hh))
 clear h hb hh
 have HK := Lib.hid k3
 clear k3
 (refine (callsIn_wide (n := 9)).1 ?_; refine callsIn_of_wp_marks Tryz.func121 rfl trivial ?_ rfl; simp only [Tryz.ntmps121, List.size_toArray, List.length_cons, List.length_nil, Nat.reduceAdd, Nat.reduceSub, Array.replicate_succ, Array.replicate_zero, List.push_toArray, List.append_toArray, List.nil_append, List.cons_append]; gi_wp2_with (first | (refine ⟨trivial, ?_⟩; gi_at_call 122; refine (callsIn_wide.2 (there_t _ HT.out)).mono ?_; rintro e w1 ⟨rfl, rfl⟩) | (refine ⟨trivial, ?_⟩; gi_at_call 130; refine (callsIn_wide.2 (z _)).mono ?_; rintro e w4 ⟨rfl, k4⟩; have HK4 := Lib.hid (HK.out.trans k4); have hz4 : w.heap.size + 1 + 1 + 1 ≤ w4.heap.size := (by have := k4.size; simpa using this); have HQ4 := Lib.hid k4; clear k4)))
 have HN := Lib.hid (put_facts HG.out.1 id b HQ4.out)
 have HSN := Lib.hid (show ∀ W', Keeps (FpG r1 r2 r3 M) w4 W' → (∀ i : Nat, W'.cell? ⟨w.heap.size, i, none⟩ = ([.pointer (some ⟨G, 0, none⟩)] : List Value)[i]?) ∧ (∀ i : Nat, W'.cell? ⟨w.heap.size + 1, i, none⟩ = ([.int .u32 (id : Int)] : List Value)[i]?) ∧ (∀ i : Nat, W'.cell? ⟨w.heap.size + 1 + 1, i, none⟩ = ([.int .i32 b.x0, .int .i32 b.y0, .int .i32 b.x1, .int .i32 b.y1] : List Value)[i]?) ∧ (∀ i : Nat, W'.cell? ⟨G, i, none⟩ = ([.int .i64 s, .map (some r1), .map (some r2), .map (some r3)] : List Value)[i]?) from fun W' hk => ZAq)
 obtain ⟨b0, hb0⟩ := look_val L id
 have hlk1 := look_box ((HG.out.1.m1.keeps HK4.out (fun h => h)).drew) id
 have hlk2 := fun o => look_box (((HG.out.1.m1.keeps HK4.out (fun h => h)).alloc o).drew) id
 rw [hb0, HG.out.2.2] at hlk1
 simp only [hb0, HG.out.2.2] at hlk2
 simp only [Bx.val] at hlk1 hlk2
 clear hb0
 refine wpIn_wide.2 ?_
 go_region_held3 (fun W => (∀ i : Nat, W.cell? ⟨w.heap.size, i, none⟩ = ([.pointer (some ⟨G, 0, none⟩)] : List Value)[i]?) ∧ (∀ i : Nat, W.cell? ⟨w.heap.size + 1, i, none⟩ = ([.int .u32 (id : Int)] : List Value)[i]?) ∧ (∀ i : Nat, W.cell? ⟨w.heap.size + 1 + 1, i, none⟩ = ([.int .i32 b.x0, .int .i32 b.y0, .int .i32 b.x1, .int .i32 b.y1] : List Value)[i]?) ∧ (∀ i : Nat, W.cell? ⟨G, i, none⟩ = ([.int .i64 s, .map (some r1), .map (some r2), .map (some r3)] : List Value)[i]?)) (first | with_reducible assumption | exact HSN.out _ Z4) (first | fail)
 all_goals
  gi_wp2
  refine (show ∀ Wx, Keeps (fun _ => False) w4 Wx → LeavesInM _ _ _ _ _ _ _ _ Wx from ?_) _ Z4
  intro Wx hkx
  have hkk := HK4.out.trans hkx
  refine ⟨_, results_tmp rfl _ _ _, L, A, M, ?_, HG.out.1.kd hkk, ?_, hkk.mono (fun _ _ h => h.elim), fun k h => .inl h⟩
  ·simp [putE, HG.out.2]
  ·simp [putS, HG.out.2]
theorem hasB_no {L : List (Nat × Bx)} {id : Nat} (h : hasB L id = false) : ∀ p ∈ kvB L, p.1 ≠ id := by
 intro p hp e
 obtain ⟨q, hq, rfl⟩ := List.mem_map.1 hp
 have : hasB L id = true := by unfold hasB; rw [List.any_eq_true]; exact ⟨q, hq, by simpa using e⟩
 rw [h] at this; cases this
theorem GridM.boxed {w : World} {G r1 r2 r3 : Nat} {s : Int} {L : List (Nat × Bx)} {A : List Nat} {M : List CE} (h : GridM w G r1 r2 r3 s L A M) (id : Nat) (b : Bx) (hno : hasB L id = false) :
 ∃ w', (Instr.mapUpdate 60 (.map (some r1)) (.int .u32 (id : Int)) (.agg #[.int .i32 b.x0, .int .i32 b.y0, .int .i32 b.x1, .int .i32 b.y1])).run Tryz.prog w = .ok () w' ∧ GridM w' G r1 r2 r3 s (L ++ [(id, b)]) A M ∧ Keeps (fun k => k = r1) w w' := by
 obtain ⟨w', hrun, hm, hk⟩ := h.m1.update keyid Tryz.underlying60 b.val (hasB_no hno)
 refine ⟨w', hrun, ⟨h.blk.keeps hk (h.m1.ne h.blk), by simpa [kvB] using hm, h.m2.keeps hk (fun e => h.d12 e.symm) (fun k hk e => mapL_own h.m1 h.m2 (e ▸ hk)), h.m3.keeps hk (fun e => h.d13 e.symm), h.d12, h.d13, h.d23⟩, hk⟩
theorem GridM.aparted {w : World} {G r1 r2 r3 : Nat} {s : Int} {L : List (Nat × Bx)} {A : List Nat} {M : List CE} (h : GridM w G r1 r2 r3 s L A M) (id : Nat) (hno : id ∉ A) :
 ∃ w', (Instr.mapUpdate 82 (.map (some r3)) (.int .u32 (id : Int)) (.bool true)).run Tryz.prog w = .ok () w' ∧ GridM w' G r1 r2 r3 s L (A ++ [id]) M ∧ Keeps (fun k => k = r3) w w' := by
 obtain ⟨w', hrun, hm, hk⟩ := h.m3.update keyid Tryz.underlying82 (k := id) (.bool true) (fun p hp e => by obtain ⟨a, ha, rfl⟩ := List.mem_map.1 hp; exact hno (e ▸ ha))
 refine ⟨w', hrun, ⟨h.blk.keeps hk (h.m3.ne h.blk), h.m1.keeps hk (fun e => h.d13 e), h.m2.keeps hk (fun e => h.d23 e) (fun k hk e => mapL_own h.m3 h.m2 (e ▸ hk)), by simpa [kvA] using hm, h.d12, h.d13, h.d23⟩, hk⟩
theorem put_apart (w : World) (G r1 r2 r3 : Nat) (s : Int) (hs : Size s) (L : List (Nat × Bx)) (A : List Nat) (M : List CE) (h : GridM w G r1 r2 r3 s L A M) (id : Nat) (b : Bx) (hb : Right b) (hh : hasB L id = false) (hA : id ∉ A) (hc : cnt s b > 1024) : Calls Tryz.prog 121 #[.pointer (some ⟨G, 0, none⟩), .int .u32 (id : Int), .agg #[.int .i32 b.x0, .int .i32 b.y0, .int .i32 b.x1, .int .i32 b.y1]] w (fun e w' => ∃ L' A' M', e = .returned (.int .i64 (putE id b L)) ∧ GridM w' G r1 r2 r3 s L' A' M' ∧ (L', A', viewE M') = putS s id b L A (viewE M) ∧ Keeps (FpG r1 r2 r3 M) w w' ∧ ∀ k, Own M' k → Own M k ∨ w.heap.size ≤ k) := by
 have k3 : Keeps (fun _ => False) w (((w.alloc (.cells #[.pointer (some ⟨G, 0, none⟩)] 64)).alloc (.cells #[.int .u32 (id : Int)] 35)).alloc (.cells #[.int .i32 b.x0, .int .i32 b.y0, .int .i32 b.x1, .int .i32 b.y1] 39)) := by (repeat (first | exact Keeps.refl _ _ | refine Keeps.alloc ?_ _ | refine Keeps.drew ?_))
 have HT := Lib.hid (h.blk.keeps k3 (fun h => h))
 have z := right_t b
 have zc := count_t s hs b hb
 simp only [hb, decide_true] at z
 have HG := Lib.hid (And.intro h (And.intro hb (And.intro hh (And.intro hA hc))))
 obtain ⟨cn, hcn⟩ := ZE (cnt s b)
 rw [← hcn] at zc hc
 clear h hb hh hA hcn hs
 have HK := Lib.hid k3
 clear k3
 (refine (callsIn_wide (n := 9)).1 ?_; refine callsIn_of_wp_marks Tryz.func121 rfl trivial ?_ rfl; simp only [Tryz.ntmps121, List.size_toArray, List.length_cons, List.length_nil, Nat.reduceAdd, Nat.reduceSub, Array.replicate_succ, Array.replicate_zero, List.push_toArray, List.append_toArray, List.nil_append, List.cons_append]; gi_wp2_with (first | (refine ⟨trivial, ?_⟩; gi_at_call 122; refine (callsIn_wide.2 (there_t _ HT.out)).mono ?_; rintro e w1 ⟨rfl, rfl⟩) | (refine ⟨trivial, ?_⟩; gi_at_call 130; refine (callsIn_wide.2 (z _)).mono ?_; rintro e w4 ⟨rfl, k4⟩; have HK4 := Lib.hid (HK.out.trans k4); have hz4 : w.heap.size + 1 + 1 + 1 ≤ w4.heap.size := (by have := k4.size; simpa using this); have HQ4 := Lib.hid k4; clear k4)))
 have HN := Lib.hid (put_facts HG.out.1 id b HQ4.out)
 have HSN := Lib.hid (show ∀ W', Keeps (FpG r1 r2 r3 M) w4 W' → (∀ i : Nat, W'.cell? ⟨w.heap.size, i, none⟩ = ([.pointer (some ⟨G, 0, none⟩)] : List Value)[i]?) ∧ (∀ i : Nat, W'.cell? ⟨w.heap.size + 1, i, none⟩ = ([.int .u32 (id : Int)] : List Value)[i]?) ∧ (∀ i : Nat, W'.cell? ⟨w.heap.size + 1 + 1, i, none⟩ = ([.int .i32 b.x0, .int .i32 b.y0, .int .i32 b.x1, .int .i32 b.y1] : List Value)[i]?) ∧ (∀ i : Nat, W'.cell? ⟨G, i, none⟩ = ([.int .i64 s, .map (some r1), .map (some r2), .map (some r3)] : List Value)[i]?) from fun W' hk => ZAq)
 (obtain ⟨b0, hb0⟩ := look_val L id; have hlk1 := look_box ((HG.out.1.m1.keeps HK4.out (fun h => h)).drew) id; have hlk2 := fun o => look_box (((HG.out.1.m1.keeps HK4.out (fun h => h)).alloc o).drew) id; rw [hb0, HG.out.2.2.1] at hlk1; simp only [hb0, HG.out.2.2.1] at hlk2; simp only [Bx.val] at hlk1 hlk2; clear hb0)
 refine wpIn_wide.2 ?_
 go_region_held3 (fun W => (∀ i : Nat, W.cell? ⟨w.heap.size, i, none⟩ = ([.pointer (some ⟨G, 0, none⟩)] : List Value)[i]?) ∧ (∀ i : Nat, W.cell? ⟨w.heap.size + 1, i, none⟩ = ([.int .u32 (id : Int)] : List Value)[i]?) ∧ (∀ i : Nat, W.cell? ⟨w.heap.size + 1 + 1, i, none⟩ = ([.int .i32 b.x0, .int .i32 b.y0, .int .i32 b.x1, .int .i32 b.y1] : List Value)[i]?) ∧ (∀ i : Nat, W.cell? ⟨G, i, none⟩ = ([.int .i64 s, .map (some r1), .map (some r2), .map (some r3)] : List Value)[i]?)) (first | with_reducible assumption | exact HSN.out _ Z4) (first | fail)
 all_goals
  gi_wp2
  refine (show ∀ Wx, Keeps (fun _ => False) w4 Wx → Code.wpIn _ _ _ _ _ _ Wx from ?_) _ Z4
  clear hlk1 hlk2
  intro Wx hk5
  obtain ⟨Wy, hup, hG5, hku⟩ := ((HG.out.1.kd (HK4.out.trans hk5)).kd (Keeps.refl (fun _ => False) Wx).drew).boxed id b HG.out.2.2.1
  have hk6 : Keeps (FpG r1 r2 r3 M) w4 Wx := hk5.mono (fun _ _ h => h.elim)
  have HK6 := Lib.hid (hk6.drew.then hku (fun i hi e => .inl e))
  have H5 := Lib.hid hG5
  clear hk5 hG5 hku
  refine wpIn_wide.2 ?_
  go_region_held3 (fun W => (∀ i : Nat, W.cell? ⟨w.heap.size, i, none⟩ = ([.pointer (some ⟨G, 0, none⟩)] : List Value)[i]?) ∧ (∀ i : Nat, W.cell? ⟨w.heap.size + 1, i, none⟩ = ([.int .u32 (id : Int)] : List Value)[i]?) ∧ (∀ i : Nat, W.cell? ⟨w.heap.size + 1 + 1, i, none⟩ = ([.int .i32 b.x0, .int .i32 b.y0, .int .i32 b.x1, .int .i32 b.y1] : List Value)[i]?) ∧ (∀ i : Nat, W.cell? ⟨G, i, none⟩ = ([.int .i64 s, .map (some r1), .map (some r2), .map (some r3)] : List Value)[i]?)) (first | with_reducible assumption | exact HSN.out _ ZAJ) (first | fail)
  clear hup hk6
  gi_wp2
  refine wpIn_wide.2 ?_
  go_region_held3 (fun W => (∀ i : Nat, W.cell? ⟨w.heap.size, i, none⟩ = ([.pointer (some ⟨G, 0, none⟩)] : List Value)[i]?) ∧ (∀ i : Nat, W.cell? ⟨w.heap.size + 1, i, none⟩ = ([.int .u32 (id : Int)] : List Value)[i]?) ∧ (∀ i : Nat, W.cell? ⟨w.heap.size + 1 + 1, i, none⟩ = ([.int .i32 b.x0, .int .i32 b.y0, .int .i32 b.x1, .int .i32 b.y1] : List Value)[i]?) ∧ (∀ i : Nat, W.cell? ⟨G, i, none⟩ = ([.int .i64 s, .map (some r1), .map (some r2), .map (some r3)] : List Value)[i]?)) (first | with_reducible assumption | exact HSN.out _ ZAJ) (first
   | (go_at_call 126; (with_reducible refine (zc _).mono ?_); rintro e w7 ⟨rfl, hk7⟩; have HK7 := Lib.hid (HK6.out.trans ((((Keeps.refl _ Wy).drew).trans hk7).mono (fun _ _ h => h.elim))); have HY7 := Lib.hid (((Keeps.refl _ Wy).drew).trans hk7); clear hk7))
  gi_wp2
  obtain ⟨Wz, hup, hG6, hku⟩ := ((H5.out.kd HY7.out).kd (Keeps.refl (fun _ => False) w7).drew).aparted id HG.out.2.2.2.1
  have HK8 := Lib.hid (HK7.out.drew.then hku (fun i hi e => .inr (.inr (.inl e))))
  have H6 := Lib.hid hG6
  clear hG6 hku
  refine wpIn_wide.2 ?_
  go_region_held3 (fun W => (∀ i : Nat, W.cell? ⟨w.heap.size, i, none⟩ = ([.pointer (some ⟨G, 0, none⟩)] : List Value)[i]?) ∧ (∀ i : Nat, W.cell? ⟨w.heap.size + 1, i, none⟩ = ([.int .u32 (id : Int)] : List Value)[i]?) ∧ (∀ i : Nat, W.cell? ⟨w.heap.size + 1 + 1, i, none⟩ = ([.int .i32 b.x0, .int .i32 b.y0, .int .i32 b.x1, .int .i32 b.y1] : List Value)[i]?) ∧ (∀ i : Nat, W.cell? ⟨G, i, none⟩ = ([.int .i64 s, .map (some r1), .map (some r2), .map (some r3)] : List Value)[i]?)) (first | with_reducible assumption | exact HSN.out _ ZAJ) (first | fail)
  clear hup
  gi_wp2
  refine ⟨_, results_tmp rfl _ _ _, L ++ [(id, b)], A ++ [id], M, ?_, H6.out, ?_, (HK4.out.mono (fun _ _ h => h.elim)).trans HK8.out, fun k h => .inl h⟩
  ·simp [putE, HG.out.2]
  ·simp [putS, HG.out.2]
end Gs
open Go.RowKit Go.Shelf
namespace Gs
open Mem Gr
theorem coverL_len {s : Int} (hs : Size s) {b : Bx} (hb : Right b) : ((coverL s b).length : Int) = cnt s b := by
 have h1 := ediv_mono hs.1 hb.2.2.1
 have h2 := ediv_mono hs.1 hb.2.2.2
 unfold coverL cnt
 rw [List.length_flatMap]
 simp only [List.length_map, upto_len]
 rw [List.map_const', List.sum_replicate_nat, upto_len, Int.natCast_mul, Int.toNat_of_nonneg Z8, Int.toNat_of_nonneg Z8, Int.mul_comm]
theorem put_in (w : World) (G r1 r2 r3 : Nat) (s : Int) (hs : Size s) (L : List (Nat × Bx)) (A : List Nat) (M : List CE) (h : GridM w G r1 r2 r3 s L A M) (hN : ∀ e ∈ M, e.ids.length ≤ 100000) (id : Nat) (b : Bx) (hb : Right b) (hh : hasB L id = false) (hc : ¬ cnt s b > 1024) : Calls Tryz.prog 121 #[.pointer (some ⟨G, 0, none⟩), .int .u32 (id : Int), .agg #[.int .i32 b.x0, .int .i32 b.y0, .int .i32 b.x1, .int .i32 b.y1]] w (fun e w' => ∃ L' A' M', e = .returned (.int .i64 (putE id b L)) ∧ GridM w' G r1 r2 r3 s L' A' M' ∧ (L', A', viewE M') = putS s id b L A (viewE M) ∧ Keeps (FpG r1 r2 r3 M) w w' ∧ ∀ k, Own M' k → Own M k ∨ w.heap.size ≤ k) := by
 have k3 : Keeps (fun _ => False) w (((w.alloc (.cells #[.pointer (some ⟨G, 0, none⟩)] 64)).alloc (.cells #[.int .u32 (id : Int)] 35)).alloc (.cells #[.int .i32 b.x0, .int .i32 b.y0, .int .i32 b.x1, .int .i32 b.y1] 39)) := by (repeat (first | exact Keeps.refl _ _ | refine Keeps.alloc ?_ _ | refine Keeps.drew ?_))
 have HT := Lib.hid (h.blk.keeps k3 (fun h => h))
 have z := right_t b
 have zc := count_t s hs b hb
 simp only [hb, decide_true] at z
 have HG := Lib.hid (And.intro h (And.intro hb (And.intro hh (And.intro hc (And.intro hs hN)))))
 obtain ⟨cn, hcn⟩ := ZE (cnt s b)
 rw [← hcn] at zc hc
 clear h hb hh hcn hs hN
 have HK := Lib.hid k3
 clear k3
 (refine (callsIn_wide (n := 9)).1 ?_; refine callsIn_of_wp_marks Tryz.func121 rfl trivial ?_ rfl; simp only [Tryz.ntmps121, List.size_toArray, List.length_cons, List.length_nil, Nat.reduceAdd, Nat.reduceSub, Array.replicate_succ, Array.replicate_zero, List.push_toArray, List.append_toArray, List.nil_append, List.cons_append]; gi_wp2_with (first | (refine ⟨trivial, ?_⟩; gi_at_call 122; refine (callsIn_wide.2 (there_t _ HT.out)).mono ?_; rintro e w1 ⟨rfl, rfl⟩) | (refine ⟨trivial, ?_⟩; gi_at_call 130; refine (callsIn_wide.2 (z _)).mono ?_; rintro e w4 ⟨rfl, k4⟩; have HK4 := Lib.hid (HK.out.trans k4); have hz4 : w.heap.size + 1 + 1 + 1 ≤ w4.heap.size := (by have := k4.size; simpa using this); have HQ4 := Lib.hid k4; clear k4)))
 have HN := Lib.hid (put_facts HG.out.1 id b HQ4.out)
 have HSN := Lib.hid (show ∀ W', Keeps (FpG r1 r2 r3 M) w4 W' → (∀ i : Nat, W'.cell? ⟨w.heap.size, i, none⟩ = ([.pointer (some ⟨G, 0, none⟩)] : List Value)[i]?) ∧ (∀ i : Nat, W'.cell? ⟨w.heap.size + 1, i, none⟩ = ([.int .u32 (id : Int)] : List Value)[i]?) ∧ (∀ i : Nat, W'.cell? ⟨w.heap.size + 1 + 1, i, none⟩ = ([.int .i32 b.x0, .int .i32 b.y0, .int .i32 b.x1, .int .i32 b.y1] : List Value)[i]?) ∧ (∀ i : Nat, W'.cell? ⟨G, i, none⟩ = ([.int .i64 s, .map (some r1), .map (some r2), .map (some r3)] : List Value)[i]?) from fun W' hk => ZAq)
 (obtain ⟨b0, hb0⟩ := look_val L id; have hlk1 := look_box ((HG.out.1.m1.keeps HK4.out (fun h => h)).drew) id; have hlk2 := fun o => look_box (((HG.out.1.m1.keeps HK4.out (fun h => h)).alloc o).drew) id; rw [hb0, HG.out.2.2.1] at hlk1; simp only [hb0, HG.out.2.2.1] at hlk2; simp only [Bx.val] at hlk1 hlk2; clear hb0)
 refine wpIn_wide.2 ?_
 go_region_held3 (fun W => (∀ i : Nat, W.cell? ⟨w.heap.size, i, none⟩ = ([.pointer (some ⟨G, 0, none⟩)] : List Value)[i]?) ∧ (∀ i : Nat, W.cell? ⟨w.heap.size + 1, i, none⟩ = ([.int .u32 (id : Int)] : List Value)[i]?) ∧ (∀ i : Nat, W.cell? ⟨w.heap.size + 1 + 1, i, none⟩ = ([.int .i32 b.x0, .int .i32 b.y0, .int .i32 b.x1, .int .i32 b.y1] : List Value)[i]?) ∧ (∀ i : Nat, W.cell? ⟨G, i, none⟩ = ([.int .i64 s, .map (some r1), .map (some r2), .map (some r3)] : List Value)[i]?)) (first | with_reducible assumption | exact HSN.out _ Z4) (first | fail)
 all_goals
  gi_wp2
  refine (show ∀ Wx, Keeps (fun _ => False) w4 Wx → Code.wpIn _ _ _ _ _ _ Wx from ?_) _ Z4
  clear hlk1 hlk2
  intro Wx hk5
  obtain ⟨Wy, hup, hG5, hku⟩ := ((HG.out.1.kd (HK4.out.trans hk5)).kd (Keeps.refl (fun _ => False) Wx).drew).boxed id b HG.out.2.2.1
  have hk6 : Keeps (FpG r1 r2 r3 M) w4 Wx := hk5.mono (fun _ _ h => h.elim)
  have HK6 := Lib.hid (hk6.drew.then hku (fun i hi e => .inl e))
  have H5 := Lib.hid hG5
  clear hk5 hG5 hku
  refine wpIn_wide.2 ?_
  go_region_held3 (fun W => (∀ i : Nat, W.cell? ⟨w.heap.size, i, none⟩ = ([.pointer (some ⟨G, 0, none⟩)] : List Value)[i]?) ∧ (∀ i : Nat, W.cell? ⟨w.heap.size + 1, i, none⟩ = ([.int .u32 (id : Int)] : List Value)[i]?) ∧ (∀ i : Nat, W.cell? ⟨w.heap.size + 1 + 1, i, none⟩ = ([.int .i32 b.x0, .int .i32 b.y0, .int .i32 b.x1, .int .i32 b.y1] : List Value)[i]?) ∧ (∀ i : Nat, W.cell? ⟨G, i, none⟩ = ([.int .i64 s, .map (some r1), .map (some r2), .map (some r3)] : List Value)[i]?)) (first | with_reducible assumption | exact HSN.out _ ZAJ) (first | fail)
  clear hup hk6
  gi_wp2
  refine wpIn_wide.2 ?_
  go_region_held3 (fun W => (∀ i : Nat, W.cell? ⟨w.heap.size, i, none⟩ = ([.pointer (some ⟨G, 0, none⟩)] : List Value)[i]?) ∧ (∀ i : Nat, W.cell? ⟨w.heap.size + 1, i, none⟩ = ([.int .u32 (id : Int)] : List Value)[i]?) ∧ (∀ i : Nat, W.cell? ⟨w.heap.size + 1 + 1, i, none⟩ = ([.int .i32 b.x0, .int .i32 b.y0, .int .i32 b.x1, .int .i32 b.y1] : List Value)[i]?) ∧ (∀ i : Nat, W.cell? ⟨G, i, none⟩ = ([.int .i64 s, .map (some r1), .map (some r2), .map (some r3)] : List Value)[i]?)) (first | with_reducible assumption | exact HSN.out _ ZAJ) (first
   | (go_at_call 126; (with_reducible refine (zc _).mono ?_); rintro e w7 ⟨rfl, hk7⟩; have HK7 := Lib.hid (HK6.out.trans ((((Keeps.refl _ Wy).drew).trans hk7).mono (fun _ _ h => h.elim))); have HY7 := Lib.hid (((Keeps.refl _ Wy).drew).trans hk7); clear hk7))
  gi_wp2
  have HK8 := Lib.hid (show Keeps (FpG r1 r2 r3 M) w4 ((w7.drew.alloc (.cells #[.int .i32 b.x0, .int .i32 b.y0, .int .i32 b.x1, .int .i32 b.y1] 39)).alloc (.cells #[.int .i64 s] 2)) from (HK7.out.drew.alloc _).alloc _)
  refine wpIn_wide.2 ?_
  go_region_held3 (fun W => (∀ i : Nat, W.cell? ⟨w.heap.size, i, none⟩ = ([.pointer (some ⟨G, 0, none⟩)] : List Value)[i]?) ∧ (∀ i : Nat, W.cell? ⟨w.heap.size + 1, i, none⟩ = ([.int .u32 (id : Int)] : List Value)[i]?) ∧ (∀ i : Nat, W.cell? ⟨w.heap.size + 1 + 1, i, none⟩ = ([.int .i32 b.x0, .int .i32 b.y0, .int .i32 b.x1, .int .i32 b.y1] : List Value)[i]?) ∧ (∀ i : Nat, W.cell? ⟨G, i, none⟩ = ([.int .i64 s, .map (some r1), .map (some r2), .map (some r3)] : List Value)[i]?)) (first | with_reducible assumption | exact HSN.out _ (by first | exact HK7.out.drew | exact HK8.out)) (first
   | (go_at_call 127; (with_reducible refine (cover_t _ _ _).mono ?_); rintro e w8 ⟨rfl, rfl⟩))
  gi_wp2
  refine (show ∀ Wz, Keeps (fun _ => False) w7 Wz → Blk Wz (w7.heap.size + 1) 2 [.int .i64 s] → Blk Wz w7.heap.size 39 [.int .i32 b.x0, .int .i32 b.y0, .int .i32 b.x1, .int .i32 b.y1] → Code.wpIn _ _ _ _ _ _ Wz from ?_) _ Z4 (by have := (Blk.new (w7.alloc (.cells #[.int .i32 b.x0, .int .i32 b.y0, .int .i32 b.x1, .int .i32 b.y1] 39)) 2 [.int .i64 s]).drew; simpa only [World.size_alloc] using this) ((Blk.new w7 39 [.int .i32 b.x0, .int .i32 b.y0, .int .i32 b.x1, .int .i32 b.y1]).alloc _).drew
  intro Wz kz hSB hBB
  have hkz := HK7.out.trans (kz.mono (T := FpG r1 r2 r3 M) (fun _ _ h => h.elim))
  have hyz := HY7.out.trans kz
  obtain ⟨hGz, b27, b35, b37⟩ := HN.out _ hkz
  have hG6 := H5.out.kd hyz
  have hKW := (HK4.out.mono (T := FpG r1 r2 r3 M) (fun _ _ h => h.elim)).trans hkz
  have HKZ := Lib.hid hKW
  have H6 := Lib.hid hG6
  have hz0 := hKW.size
  have hz1 := hkz.size
  have hoB : ¬ Own M (w.heap.size + 1) := fun h => by have := HG.out.1.m2.own_lt h; omega
  have hlen := coverL_len HG.out.2.2.2.2.1 HG.out.2.1
  have hle := HG.out.2.2.2.1
  have HLn := Lib.hid (show (coverL s b).length ≤ 1024 from Z8)
  clear hlen hle
  refine wpIn_range (gf := 138) (lb := #[.pointer (some ⟨w7.heap.size + 1, 0, none⟩), .pointer (some ⟨w7.heap.size, 0, none⟩)]) (encs := fun c : Cl => #[.agg #[.int .i32 c.1, .int .i32 c.2]]) (xs := coverL s b) (A := fun _ => True) rfl (enters_of Tryz.func138 ZAB rfl)
   (fun W1 hk => cover_gives 8 _ _ s b HG.out.2.2.2.2.1 HG.out.2.1 W1 (hSB.keeps hk (fun h => h)) (hBB.keeps hk (fun h => h))) (fun _ => rfl)
   (PutI Wz r2 M id 100000) (fun _ _ _ _ => False) (puti_stab Wz r2 M id 100000) (fun _ _ _ _ _ _ h => h.elim)
   (fun k => k = r2 ∨ Own M k) (fun k hk => by rcases hk with rfl | hk; exact hG6.m2.lt; exact hG6.m2.own_lt hk) ⟨M, hG6.m2, rfl, fun k h => .inl h, Keeps.refl _ _, fun e he => by simpa using HG.out.2.2.2.2.2 e he, fun _ => Iff.rfl⟩ (fun _ _ => trivial)
   (PutM Wz r2 M id 100000 w.heap.size (w.heap.size + 1)) (putm_stab Wz r2 M id 100000 _ _) ?assign ?body ?done ?stop
  case assign =>
   intro l pre x rest S W hxs hI hin hlt
   have HX := Lib.hid (And.intro hI hin)
   clear hI hin hGz b27 b35 b37 hG6 hSB hBB
   gi_wp2
   obtain ⟨hI, hin⟩ := HX.out
   have ka := (Keeps.refl (fun _ => False) W).alloc (.cells #[.int .i32 x.1, .int .i32 x.2] 181)
   have hzW : Wz.heap.size ≤ W.heap.size := by obtain ⟨_, _, _, _, hk, _⟩ := hI; exact hk.size
   refine ⟨fun k => S k ∨ k = W.heap.size, ⟨ka.mono (fun _ _ h => h.elim), fun k hk => ?_⟩, fun k hk => ?_, W.heap.size, S, ⟨rfl, rfl, ZA7⟩, Blk.new W 181 [.int .i32 x.1, .int .i32 x.2], puti_stab Wz r2 M id 100000 pre S (fun _ => False) W _ hI hin ka (fun _ _ h => h) (fun _ h => h.elim), hin.mono ka.size, fun h => by have := hin _ h; omega, fun _ => Iff.rfl⟩
   ·rcases hk with h | h
    ·exact .inl h
    ·exact .inr Z8
   ·simp only [World.size_alloc]
    rcases hk with h | h
    ·have := hin k h; omega
    ·omega
  case body =>
   intro l pre x rest a1 S W hxs hM hin hlt
   have hpl : pre.length ≤ 1024 := by have := HLn.out; rw [hxs] at this; simp at this; omega
   exact put_round l Wz G r1 r2 r3 _ _ id 100000 s M hGz b27 b35 hG6.m2 hoB pre x Z8 S W a1 hM hin
  case done =>
   rintro D S' W' hD hnD hf hin ⟨M', h1, h2, h3, h4, h5, h6⟩ hDD
   have HH := Lib.hid (And.intro h1 (And.intro h2 (And.intro h3 (And.intro h4 (And.intro h6 (And.intro hD hnD))))))
   have kp := keeps_putObj W' D (.deferred none)
   have HP := Lib.hid kp
   have HDD := Lib.hid hDD
   clear kp h1 h2 h3 h4 h5 h6 hGz b27 b35 b37 hG6 hkz hyz hKW hSB hBB kz hD hnD hDD hf hin
   gi_wp2
   refine ⟨ZA7, .inl ⟨_, _, rfl, run_takeDeferred HDD.out, ?_⟩⟩
   obtain ⟨h1, h2, h3, h4, h6, hD, hnD⟩ := HH.out
   have hg := H6.out
   have hn1 : ¬ (r1 = r2 ∨ Own M r1) := fun h => h.elim hg.d12 (fun h => mapL_own hg.m1 hg.m2 h)
   have hn3 : ¬ (r3 = r2 ∨ Own M r3) := fun h => h.elim (fun e => hg.d23 e.symm) (fun h => mapL_own hg.m3 hg.m2 h)
   have hnG : ¬ (G = r2 ∨ Own M G) := fun h => h.elim (hg.m2.ne hg.blk) (hg.m2.ne_own hg.blk ZAH)
   have l1 := hg.m1.lt
   have l3 := hg.m3.lt
   have lG := hg.blk.lt
   refine ⟨_, results_tmp rfl _ _ _, L ++ [(id, b)], A, M', ?_, ⟨(hg.blk.keeps h4 hnG).keeps HP.out (fun e => Z8), (hg.m1.keeps h4 hn1).keeps HP.out (fun e => Z8), h1.keeps HP.out (fun e => hnD (e ▸ (h6 _).2 (.inl rfl))) (fun k hk e => hnD (e ▸ (h6 _).2 (.inr hk))), (hg.m3.keeps h4 hn3).keeps HP.out (fun e => Z8), hg.d12, hg.d13, hg.d23⟩, ?_, ?_, fun k hk => (h3 k hk).imp (fun h => h) (fun h => Z8)⟩
   ·simp [putE, HG.out.2]
   ·rw [h2]; simp [putS, HG.out.2]
   ·exact ((HKZ.out).then h4 (fun i hi h => h.elim (fun e => .inr (.inl e)) (fun h => .inr (.inr (.inr h))))).then HP.out (fun i hi e => Z8)
  case stop =>
   intro D c0 pre S' W' hD hnD hf hin hpre hx
   exact hx.elim
theorem put_t (w : World) (G r1 r2 r3 : Nat) (s : Int) (hs : Size s) (L : List (Nat × Bx)) (A : List Nat) (M : List CE) (h : GridM w G r1 r2 r3 s L A M) (hN : ∀ e ∈ M, e.ids.length ≤ 100000) (hA : ∀ a ∈ A, hasB L a = true) (id : Nat) (b : Bx) : Calls Tryz.prog 121 #[.pointer (some ⟨G, 0, none⟩), .int .u32 (id : Int), .agg #[.int .i32 b.x0, .int .i32 b.y0, .int .i32 b.x1, .int .i32 b.y1]] w (fun e w' => ∃ L' A' M', e = .returned (.int .i64 (putE id b L)) ∧ GridM w' G r1 r2 r3 s L' A' M' ∧ (L', A', viewE M') = putS s id b L A (viewE M) ∧ Keeps (FpG r1 r2 r3 M) w w' ∧ ∀ k, Own M' k → Own M k ∨ w.heap.size ≤ k) := by
 by_cases hb : Right b
 ·cases hh : hasB L id with
  | true => exact put_there w G r1 r2 r3 s L A M h id b hb hh
  | false =>
   by_cases hc : cnt s b > 1024
   ·exact put_apart w G r1 r2 r3 s hs L A M h id b hb hh (fun ha => by rw [hA id ha] at hh; cases hh) hc
   ·exact put_in w G r1 r2 r3 s hs L A M h hN id b hb hh hc
 ·exact put_wrong w G r1 r2 r3 s L A M h id b hb
end Gs
end Go.Proofs.YtdbpfbokfmpgcaaGreat
