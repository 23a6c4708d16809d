/-
  RefL: all: both tell the same, three times.
-/
import Derived.Test.YtndghakagogmcaaRefD
import Derived.Test.YtndghakagogmcaaFr181
import Derived.Deep.QuietTactic
import Derived.BigQuiet
namespace Go.Proofs.Ytndghakagogmcaa
open Go.RowKit Go.Shelf
set_option linter.unusedVariables false
set_option linter.unusedSimpArgs false
attribute [local go_sem] Oper.semAt_some
namespace Tree
open Mem BT
theorem frames70 {P : Act → Prop} (hP : ∀ u0 u1 u2 u3 u4 u5 u6 u7 u8 u9 u10 u11 u12 u13 u14 u15 u16 u17 u18 u19 u20 u21 u22 u23 u24 u25 u26 u27 u28 u29 u30 u31 u32 u33 u34 u35 u36 u37 u38 u39 u40 u41 u42 u43 u44 u45 u46 u47 u48 u49 u50 u51 u52 u53 u54 u55 u56 u57 u58 u59 u60 u61 u62 u63 u64 u65 u66 u67 u68 u69 : Value, P ⟨#[u0, u1, u2, u3, u4, u5, u6, u7, u8, u9, u10, u11, u12, u13, u14, u15, u16, u17, u18, u19, u20, u21, u22, u23, u24, u25, u26, u27, u28, u29, u30, u31, u32, u33, u34, u35, u36, u37, u38, u39, u40, u41, u42, u43, u44, u45, u46, u47, u48, u49, u50, u51, u52, u53, u54, u55, u56, u57, u58, u59, u60, u61, u62, u63, u64, u65, u66, u67, u68, u69], []⟩) : ∀ a : Act, a.tmps.size = 70 → a.defers = [] → P a := by
  rintro ⟨⟨t⟩, d⟩ h1 h2
  simp only [List.size_toArray] at h1 h2
  subst h2
  have h := unroll t 70 h1
  have e : (List.range 70).map (fun i => t.getD i undef) = [t.getD 0 undef, t.getD 1 undef, t.getD 2 undef, t.getD 3 undef, t.getD 4 undef, t.getD 5 undef, t.getD 6 undef, t.getD 7 undef, t.getD 8 undef, t.getD 9 undef, t.getD 10 undef, t.getD 11 undef, t.getD 12 undef, t.getD 13 undef, t.getD 14 undef, t.getD 15 undef, t.getD 16 undef, t.getD 17 undef, t.getD 18 undef, t.getD 19 undef, t.getD 20 undef, t.getD 21 undef, t.getD 22 undef, t.getD 23 undef, t.getD 24 undef, t.getD 25 undef, t.getD 26 undef, t.getD 27 undef, t.getD 28 undef, t.getD 29 undef, t.getD 30 undef, t.getD 31 undef, t.getD 32 undef, t.getD 33 undef, t.getD 34 undef, t.getD 35 undef, t.getD 36 undef, t.getD 37 undef, t.getD 38 undef, t.getD 39 undef, t.getD 40 undef, t.getD 41 undef, t.getD 42 undef, t.getD 43 undef, t.getD 44 undef, t.getD 45 undef, t.getD 46 undef, t.getD 47 undef, t.getD 48 undef, t.getD 49 undef, t.getD 50 undef, t.getD 51 undef, t.getD 52 undef, t.getD 53 undef, t.getD 54 undef, t.getD 55 undef, t.getD 56 undef, t.getD 57 undef, t.getD 58 undef, t.getD 59 undef, t.getD 60 undef, t.getD 61 undef, t.getD 62 undef, t.getD 63 undef, t.getD 64 undef, t.getD 65 undef, t.getD 66 undef, t.getD 67 undef, t.getD 68 undef, t.getD 69 undef] := rfl
  exact Eq.mpr (congrArg (fun l : List Value => P ⟨⟨l⟩, []⟩) (h.trans e)) (hP (t.getD 0 undef) (t.getD 1 undef) (t.getD 2 undef) (t.getD 3 undef) (t.getD 4 undef) (t.getD 5 undef) (t.getD 6 undef) (t.getD 7 undef) (t.getD 8 undef) (t.getD 9 undef) (t.getD 10 undef) (t.getD 11 undef) (t.getD 12 undef) (t.getD 13 undef) (t.getD 14 undef) (t.getD 15 undef) (t.getD 16 undef) (t.getD 17 undef) (t.getD 18 undef) (t.getD 19 undef) (t.getD 20 undef) (t.getD 21 undef) (t.getD 22 undef) (t.getD 23 undef) (t.getD 24 undef) (t.getD 25 undef) (t.getD 26 undef) (t.getD 27 undef) (t.getD 28 undef) (t.getD 29 undef) (t.getD 30 undef) (t.getD 31 undef) (t.getD 32 undef) (t.getD 33 undef) (t.getD 34 undef) (t.getD 35 undef) (t.getD 36 undef) (t.getD 37 undef) (t.getD 38 undef) (t.getD 39 undef) (t.getD 40 undef) (t.getD 41 undef) (t.getD 42 undef) (t.getD 43 undef) (t.getD 44 undef) (t.getD 45 undef) (t.getD 46 undef) (t.getD 47 undef) (t.getD 48 undef) (t.getD 49 undef) (t.getD 50 undef) (t.getD 51 undef) (t.getD 52 undef) (t.getD 53 undef) (t.getD 54 undef) (t.getD 55 undef) (t.getD 56 undef) (t.getD 57 undef) (t.getD 58 undef) (t.getD 59 undef) (t.getD 60 undef) (t.getD 61 undef) (t.getD 62 undef) (t.getD 63 undef) (t.getD 64 undef) (t.getD 65 undef) (t.getD 66 undef) (t.getD 67 undef) (t.getD 68 undef) (t.getD 69 undef))
/-- between two rounds of the walk -/
def BothI (rd N : Nat) (W0 : World) (pre : List (Nat × Bx)) (S : Nat → Prop) (W : World) : Prop :=
  Blk W N 3 [.int .i64 (pre.length : Int)] ∧ Below W0.heap.size W0 W ∧ (∀ k, S k ↔ k = N) ∧ (rd = 1 → pre.length < 2)
def BothX (rd N : Nat) (W0 : World) (c : Code) (pre : List (Nat × Bx)) (S : Nat → Prop) (W : World) : Prop :=
  c = .exit 2 ∧ rd = 1 ∧ Blk W N 3 [.int .i64 (pre.length : Int)] ∧ Below W0.heap.size W0 W ∧ (∀ k, S k ↔ k = N)
theorem below_keeps {W0 W W' : World} {T : Nat → Prop} {b : Nat} (h : Below W0.heap.size W0 W) (hk : Keeps T W W') (hb : W0.heap.size ≤ b) (ht : ∀ k, T k → b ≤ k) : Below W0.heap.size W0 W' :=
  h.trans ⟨hk.os, hk.tape, hk.output, hk.size, fun k hk' => hk.block k (by have := h.size; omega) (fun h => by have := ht _ h; omega)⟩
theorem both_stab (rd N : Nat) (W0 : World) (b : Nat) (hb : W0.heap.size ≤ b) : Stab b (BothI rd N W0) :=
  fun pre S T W W' ⟨h1, h2, h3, h4⟩ hin hk hd ht => ⟨h1.keeps hk (hd _ ((h3 _).2 rfl)), below_keeps h2 hk hb ht, h3, h4⟩
theorem bothx_stab (rd N : Nat) (W0 : World) (b : Nat) (hb : W0.heap.size ≤ b) (c : Code) : Stab b (BothX rd N W0 c) :=
  fun pre S T W W' ⟨h0, h00, h1, h2, h3⟩ hin hk hd ht => ⟨h0, h00, h1.keeps hk (hd _ ((h3 _).2 rfl)), below_keeps h2 hk hb ht, h3⟩
/-- as a round begins: its number and its box laid -/
def BothM (rd N B0 B1 B2 C : Nat) (W0 : World) (s : List (Nat × Bx) × (Nat × Bx) × Act) (S : Nat → Prop) (W : World) : Prop :=
  ∃ X, Fr s.2.2 70 [(3, .pointer (some ⟨B0, 0, none⟩)), (4, .pointer (some ⟨B1, 0, none⟩)), (5, .func (.func 62) #[] #[.pointer (some ⟨B2, 0, none⟩)]), (6, .pointer (some ⟨C, 0, none⟩)), (7, .pointer (some ⟨N, 0, none⟩)), (8, .int .u32 (s.2.1.1 : Int)), (9, .pointer (some ⟨X, 0, none⟩))] ∧ Blk W X 47 (boxCs s.2.1.2) ∧ Blk W N 3 [.int .i64 (s.1.length : Int)] ∧
    Below W0.heap.size W0 W ∧ (∀ k, S k ↔ (k = N ∨ k = X)) ∧ N < X ∧ (rd = 1 → s.1.length < 2)
theorem bothm_stab (rd N B0 B1 B2 C : Nat) (W0 : World) (b : Nat) (hb : W0.heap.size ≤ b) : Stab b (BothM rd N B0 B1 B2 C W0) :=
  fun s S T W W' ⟨X, hF, h1, h2, h3, h4, h5, h6⟩ hin hk hd ht => ⟨X, hF, h1.keeps hk (hd _ ((h4 _).2 (.inr rfl))), h2.keeps hk (hd _ ((h4 _).2 (.inl rfl))), below_keeps h3 hk hb ht, h4, h5, h6⟩
noncomputable def bothLoop : Code := (loops (Try.f28.body.getD .skip)).getD 0 .skip
noncomputable def bothBody : Code := (rbods (Try.f28.body.getD .skip)).getD 0 .skip
set_option maxHeartbeats 4000000 in
set_option maxRecDepth 100000 in
theorem both_body (l R B0 B1 B2 C rd N : Nat) (SR : Nat → Prop) (L : List (Nat × Bx)) (W0 : World) (hR : RefS W0 R SR L) (b0 : Blk W0 B0 50 [.pointer (some ⟨R, 0, none⟩)]) (bC : Blk W0 C 3 [.int .i64 (rd : Int)]) (hN : W0.heap.size ≤ N)
    (pre : List (Nat × Bx)) (x : Nat × Bx) (rest : List (Nat × Bx)) (a : Act) (S : Nat → Prop) (W : World) (hxs : L = pre ++ x :: rest) (hM : BothM rd N B0 B1 B2 C W0 (pre, x, a) S W) (hin : Inb S W) :
    bothBody.wpIn (Fence.wide.inRound l) 7 Try.prog (Mem.Left (BothI rd N W0) (BothX rd N W0) (pre ++ [x]) S W) a W := by
  obtain ⟨X, hF, hX, hNb, hB, hS, hNX, h2⟩ := hM
  simp only at hF hX hNb hS h2
  revert hF
  refine fun hF => frames70 (P := fun a => Fr a 70 [(3, .pointer (some ⟨B0, 0, none⟩)), (4, .pointer (some ⟨B1, 0, none⟩)), (5, .func (.func 62) #[] #[.pointer (some ⟨B2, 0, none⟩)]), (6, .pointer (some ⟨C, 0, none⟩)), (7, .pointer (some ⟨N, 0, none⟩)), (8, .int .u32 (x.1 : Int)), (9, .pointer (some ⟨X, 0, none⟩))] → bothBody.wpIn (Fence.wide.inRound l) 7 Try.prog (Mem.Left (BothI rd N W0) (BothX rd N W0) (pre ++ [x]) S W) a W) ?_ a hF.1 hF.2.1 hF
  intro u0 u1 u2 u3 u4 u5 u6 u7 u8 u9 u10 u11 u12 u13 u14 u15 u16 u17 u18 u19 u20 u21 u22 u23 u24 u25 u26 u27 u28 u29 u30 u31 u32 u33 u34 u35 u36 u37 u38 u39 u40 u41 u42 u43 u44 u45 u46 u47 u48 u49 u50 u51 u52 u53 u54 u55 u56 u57 u58 u59 u60 u61 u62 u63 u64 u65 u66 u67 u68 u69 hF
  obtain rfl : u3 = .pointer (some ⟨B0, 0, none⟩) := hF.at_ 3 _ (by simp)
  obtain rfl : u4 = .pointer (some ⟨B1, 0, none⟩) := hF.at_ 4 _ (by simp)
  obtain rfl : u5 = .func (.func 62) #[] #[.pointer (some ⟨B2, 0, none⟩)] := hF.at_ 5 _ (by simp)
  obtain rfl : u6 = .pointer (some ⟨C, 0, none⟩) := hF.at_ 6 _ (by simp)
  obtain rfl : u7 = .pointer (some ⟨N, 0, none⟩) := hF.at_ 7 _ (by simp)
  obtain rfl : u8 = .int .u32 (x.1 : Int) := hF.at_ 8 _ (by simp)
  obtain rfl : u9 = .pointer (some ⟨X, 0, none⟩) := hF.at_ 9 _ (by simp)
  clear hF
  have kW := Keeps.of_below0 hB
  have hR1 := hR.kd kW
  obtain ⟨ai, ci, ab, cb, hr2, hri, hel, hln, hSS⟩ := hR1
  obtain ⟨i, hi⟩ : ∃ i : Nat, i = pre.length := ⟨_, rfl⟩
  obtain ⟨n, hn⟩ : ∃ n : Nat, n = L.length := ⟨_, rfl⟩
  have hx : L[i]? = some x := by rw [hxs, hi]; simp
  obtain ⟨gi, rfl, c1⟩ := hr2.id_at hx
  obtain ⟨gb, rfl, c2⟩ := hr2.box_at hx
  have hin' : i < n := by rw [hn]; exact (List.getElem?_eq_some_iff.1 hx).1
  have hnI : (n : Int) ≤ 65536 := by omega
  have hiI : (i : Int) < n := by omega
  have hi0 : (0 : Int) ≤ i := by omega
  have c3 := hr2.1.cell
  rw [← hn] at c3
  have c4 := (b0.below hB b0.lt).cell
  have c5 := hX.cell
  have cC := (bC.below hB bC.lt).cell 0
  have cN := hNb.cell 0
  have fN := hNb.frozen 0
  rw [← hi] at hNb h2
  simp only [List.getElem?_cons_zero, ← hi] at cN cC
  have d0 : W.cell? ⟨gb, i * 4, none⟩ = some (.int .i32 x.2.x0) := c2 0 _ rfl
  have d1 : W.cell? ⟨gb, i * 4 + 1, none⟩ = some (.int .i32 x.2.y0) := c2 1 _ rfl
  have d2 : W.cell? ⟨gb, i * 4 + 2, none⟩ = some (.int .i32 x.2.x1) := c2 2 _ rfl
  have d3 : W.cell? ⟨gb, i * 4 + 3, none⟩ = some (.int .i32 x.2.y1) := c2 3 _ rfl
  have HB := Lib.hid (And.intro hNb (And.intro hB (And.intro hS h2)))
  have HN := Lib.hid (And.intro hn hi)
  have hge : decide (n ≤ i) = false := decide_eq_false (by omega)
  have hNX' : N ≠ X := by omega
  have CC := Lib.hid cC
  have hCN : C ≠ N := by have := bC.lt; omega
  have hil : ((pre ++ [x]).length : Int) = (i : Int) + 1 := by rw [hi]; simp
  have HE := Lib.hid (show Foot S (fun k => k = N) W (W.drew.setCell ⟨N, 0, none⟩ (.int .i64 ((i : Int) + 1))) ∧ Inb (fun k => k = N) (W.drew.setCell ⟨N, 0, none⟩ (.int .i64 ((i : Int) + 1))) ∧ Blk (W.drew.setCell ⟨N, 0, none⟩ (.int .i64 ((i : Int) + 1))) N 3 [.int .i64 ((pre ++ [x]).length : Int)] ∧ Below W0.heap.size W0 (W.drew.setCell ⟨N, 0, none⟩ (.int .i64 ((i : Int) + 1))) from by
    have k1 : Keeps S W (W.drew.setCell ⟨N, 0, none⟩ (.int .i64 ((i : Int) + 1))) := ((Keeps.refl S W).drew).setCell (p := ⟨N, 0, none⟩) (fun _ => (hS _).2 (.inl rfl)) _
    have b1 := (hNb.drew).set_ 0 (.int .i64 ((i : Int) + 1))
    refine ⟨⟨k1, fun k hk => .inl ((hS k).2 (.inl hk))⟩, fun k hk => ?_, by rw [hil]; exact b1, ?_⟩
    · rw [hk]; exact b1.lt
    · exact Below.setCell hB.drew (p := ⟨N, 0, none⟩) hN _)
  have H2 := Lib.hid h2
  clear hR hr2 hri hel hln hSS hx hin kW hNb hB hS h2 c2 hn hi hxs bC b0 hX cC
  have HSx := Lib.hid (show W.drew.cell? ⟨N, 0, none⟩ = some (.int .i64 (i : Int)) ∧ (∀ j : Nat, W.drew.cell? ⟨B0, j, none⟩ = ([.pointer (some ⟨R, 0, none⟩)] : List Value)[j]?) ∧ (∀ j : Nat, W.drew.cell? ⟨R, j, none⟩ = ([.slice (some ⟨gi, 0, none⟩) n ci, .slice (some ⟨gb, 0, none⟩) n cb] : List Value)[j]?) ∧ W.drew.cell? ⟨gi, i, none⟩ = some (.int .u32 (x.1 : Int)) ∧
    (W.drew.cell? ⟨gb, i * 4, none⟩ = some (.int .i32 x.2.x0) ∧ W.drew.cell? ⟨gb, i * 4 + 1, none⟩ = some (.int .i32 x.2.y0) ∧ W.drew.cell? ⟨gb, i * 4 + 2, none⟩ = some (.int .i32 x.2.x1) ∧ W.drew.cell? ⟨gb, i * 4 + 3, none⟩ = some (.int .i32 x.2.y1)) ∧
    (∀ j : Nat, W.drew.cell? ⟨X, j, none⟩ = ([.int .i32 x.2.x0, .int .i32 x.2.y0, .int .i32 x.2.x1, .int .i32 x.2.y1] : List Value)[j]?) from ⟨cN, c4, c3, c1, ⟨d0, d1, d2, d3⟩, c5⟩)
  conv => arg 4; whnf
  gi_wp2
  refine region_heldIn (fun W => W.cell? ⟨N, 0, none⟩ = some (.int .i64 (i : Int)) ∧ (∀ j : Nat, W.cell? ⟨B0, j, none⟩ = ([.pointer (some ⟨R, 0, none⟩)] : List Value)[j]?) ∧ (∀ j : Nat, W.cell? ⟨R, j, none⟩ = ([.slice (some ⟨gi, 0, none⟩) n ci, .slice (some ⟨gb, 0, none⟩) n cb] : List Value)[j]?) ∧ W.cell? ⟨gi, i, none⟩ = some (.int .u32 (x.1 : Int)) ∧
    (W.cell? ⟨gb, i * 4, none⟩ = some (.int .i32 x.2.x0) ∧ W.cell? ⟨gb, i * 4 + 1, none⟩ = some (.int .i32 x.2.y0) ∧ W.cell? ⟨gb, i * 4 + 2, none⟩ = some (.int .i32 x.2.x1) ∧ W.cell? ⟨gb, i * 4 + 3, none⟩ = some (.int .i32 x.2.y1)) ∧
    (∀ j : Nat, W.cell? ⟨X, j, none⟩ = ([.int .i32 x.2.x0, .int .i32 x.2.y0, .int .i32 x.2.x1, .int .i32 x.2.y1] : List Value)[j]?)) (by kernel_rfl) ?_
  (refine anyHeld_take 0 (v := ?_) (by kernel_rfl) rfl (by kernel_rfl) (by kernel_rfl) (by kernel_rfl) (fun _ _ _ h => h) ⟨Or.inl ⟨by rfl, ?_⟩, fun _ _ _ => trivial⟩ (by with_reducible exact HSx.out) ?_; rotate_left; (focus (rintro w ⟨q1, q2, q3, q4, ⟨q5, q6, q7, q8⟩, q9⟩; go_simp; (try simp only [hge]); try with_reducible rfl))); simp only [Act.put, List.getElem_toArray, List.getElem_cons_succ, List.getElem_cons_zero, List.setIfInBounds_toArray, List.set_cons_zero, List.set_cons_succ]
  (refine anyHeld_take 1 (v := ?_) (by kernel_rfl) rfl (by kernel_rfl) (by kernel_rfl) (by kernel_rfl) (fun _ _ _ h => h) ⟨Or.inl ⟨by rfl, ?_⟩, fun _ _ _ => trivial⟩ (by with_reducible exact HSx.out) ?_; rotate_left; (focus (rintro w ⟨q1, q2, q3, q4, ⟨q5, q6, q7, q8⟩, q9⟩; go_simp; (try simp only [hge]); try with_reducible rfl))); simp only [Act.put, List.getElem_toArray, List.getElem_cons_succ, List.getElem_cons_zero, List.setIfInBounds_toArray, List.set_cons_zero, List.set_cons_succ]
  (refine anyHeld_take 2 (v := ?_) (by kernel_rfl) rfl (by kernel_rfl) (by kernel_rfl) (by kernel_rfl) (fun _ _ _ h => h) ⟨Or.inl ⟨by rfl, ?_⟩, fun _ _ _ => trivial⟩ (by with_reducible exact HSx.out) ?_; rotate_left; (focus (rintro w ⟨q1, q2, q3, q4, ⟨q5, q6, q7, q8⟩, q9⟩; go_simp; (try simp only [hge]); try with_reducible rfl))); simp only [Act.put, List.getElem_toArray, List.getElem_cons_succ, List.getElem_cons_zero, List.setIfInBounds_toArray, List.set_cons_zero, List.set_cons_succ]
  (refine anyHeld_take 3 (v := ?_) (by kernel_rfl) rfl (by kernel_rfl) (by kernel_rfl) (by kernel_rfl) (fun _ _ _ h => h) ⟨Or.inl ⟨by rfl, ?_⟩, fun _ _ _ => trivial⟩ (by with_reducible exact HSx.out) ?_; rotate_left; (focus (rintro w ⟨q1, q2, q3, q4, ⟨q5, q6, q7, q8⟩, q9⟩; go_simp; (try simp only [hge]); try with_reducible rfl))); simp only [Act.put, List.getElem_toArray, List.getElem_cons_succ, List.getElem_cons_zero, List.setIfInBounds_toArray, List.set_cons_zero, List.set_cons_succ]
  (refine anyHeld_take 4 (v := ?_) (by kernel_rfl) rfl (by kernel_rfl) (by kernel_rfl) (by kernel_rfl) (fun _ _ _ h => h) ⟨Or.inl ⟨by rfl, ?_⟩, fun _ _ _ => trivial⟩ (by with_reducible exact HSx.out) ?_; rotate_left; (focus (rintro w ⟨q1, q2, q3, q4, ⟨q5, q6, q7, q8⟩, q9⟩; go_simp; (try simp only [hge]); try with_reducible rfl))); simp only [Act.put, List.getElem_toArray, List.getElem_cons_succ, List.getElem_cons_zero, List.setIfInBounds_toArray, List.set_cons_zero, List.set_cons_succ]
  (refine anyHeld_take 5 (v := ?_) (by kernel_rfl) rfl (by kernel_rfl) (by kernel_rfl) (by kernel_rfl) (fun _ _ _ h => h) ⟨Or.inl ⟨by rfl, ?_⟩, fun _ _ _ => trivial⟩ (by with_reducible exact HSx.out) ?_; rotate_left; (focus (rintro w ⟨q1, q2, q3, q4, ⟨q5, q6, q7, q8⟩, q9⟩; go_simp; (try simp only [hge]); try with_reducible rfl))); simp only [Act.put, List.getElem_toArray, List.getElem_cons_succ, List.getElem_cons_zero, List.setIfInBounds_toArray, List.set_cons_zero, List.set_cons_succ]
  (refine anyHeld_take 6 (v := ?_) (by kernel_rfl) rfl (by kernel_rfl) (by kernel_rfl) (by kernel_rfl) (fun _ _ _ h => h) ⟨Or.inl ⟨by rfl, ?_⟩, fun _ _ _ => trivial⟩ (by with_reducible exact HSx.out) ?_; rotate_left; (focus (rintro w ⟨q1, q2, q3, q4, ⟨q5, q6, q7, q8⟩, q9⟩; go_simp; (try simp only [hge]); try with_reducible rfl))); simp only [Act.put, List.getElem_toArray, List.getElem_cons_succ, List.getElem_cons_zero, List.setIfInBounds_toArray, List.set_cons_zero, List.set_cons_succ]
  (refine anyHeld_take 7 (v := ?_) (by kernel_rfl) rfl (by kernel_rfl) (by kernel_rfl) (by kernel_rfl) (fun _ _ _ h => h) ⟨Or.inl ⟨by rfl, ?_⟩, fun _ _ _ => trivial⟩ (by with_reducible exact HSx.out) ?_; rotate_left; (focus (rintro w ⟨q1, q2, q3, q4, ⟨q5, q6, q7, q8⟩, q9⟩; go_simp; (try simp only [hge]); try with_reducible rfl))); simp only [Act.put, List.getElem_toArray, List.getElem_cons_succ, List.getElem_cons_zero, List.setIfInBounds_toArray, List.set_cons_zero, List.set_cons_succ]
  (refine anyHeld_take 8 (v := ?_) (by kernel_rfl) rfl (by kernel_rfl) (by kernel_rfl) (by kernel_rfl) (fun _ _ _ h => h) ⟨Or.inl ⟨by rfl, ?_⟩, fun _ _ _ => trivial⟩ (by with_reducible exact HSx.out) ?_; rotate_left; (focus (rintro w ⟨q1, q2, q3, q4, ⟨q5, q6, q7, q8⟩, q9⟩; go_simp; (try simp only [hge]); try with_reducible rfl))); simp only [Act.put, List.getElem_toArray, List.getElem_cons_succ, List.getElem_cons_zero, List.setIfInBounds_toArray, List.set_cons_zero, List.set_cons_succ]
  (refine anyHeld_take 9 (v := ?_) (by kernel_rfl) rfl (by kernel_rfl) (by kernel_rfl) (by kernel_rfl) (fun _ _ _ h => h) ⟨Or.inl ⟨by rfl, ?_⟩, fun _ _ _ => trivial⟩ (by with_reducible exact HSx.out) ?_; rotate_left; (focus (rintro w ⟨q1, q2, q3, q4, ⟨q5, q6, q7, q8⟩, q9⟩; go_simp; (try simp only [hge]); try with_reducible rfl))); simp only [Act.put, List.getElem_toArray, List.getElem_cons_succ, List.getElem_cons_zero, List.setIfInBounds_toArray, List.set_cons_zero, List.set_cons_succ]
  (refine anyHeld_take 10 (v := ?_) (by kernel_rfl) rfl (by kernel_rfl) (by kernel_rfl) (by kernel_rfl) (fun _ _ _ h => h) ⟨Or.inl ⟨by rfl, ?_⟩, fun _ _ _ => trivial⟩ (by with_reducible exact HSx.out) ?_; rotate_left; (focus (rintro w ⟨q1, q2, q3, q4, ⟨q5, q6, q7, q8⟩, q9⟩; go_simp; (try simp only [hge]); try with_reducible rfl))); simp only [Act.put, List.getElem_toArray, List.getElem_cons_succ, List.getElem_cons_zero, List.setIfInBounds_toArray, List.set_cons_zero, List.set_cons_succ]
  (refine anyHeld_take 11 (v := ?_) (by kernel_rfl) rfl (by kernel_rfl) (by kernel_rfl) (by kernel_rfl) (fun _ _ _ h => h) ⟨Or.inl ⟨by rfl, ?_⟩, fun _ _ _ => trivial⟩ (by with_reducible exact HSx.out) ?_; rotate_left; (focus (rintro w ⟨q1, q2, q3, q4, ⟨q5, q6, q7, q8⟩, q9⟩; go_simp; (try simp only [hge]); try with_reducible rfl))); simp only [Act.put, List.getElem_toArray, List.getElem_cons_succ, List.getElem_cons_zero, List.setIfInBounds_toArray, List.set_cons_zero, List.set_cons_succ]
  (refine anyHeld_take 12 (v := ?_) (by kernel_rfl) rfl (by kernel_rfl) (by kernel_rfl) (by kernel_rfl) (fun _ _ _ h => h) ⟨Or.inl ⟨by rfl, ?_⟩, fun _ _ _ => trivial⟩ (by with_reducible exact HSx.out) ?_; rotate_left; (focus (rintro w ⟨q1, q2, q3, q4, ⟨q5, q6, q7, q8⟩, q9⟩; go_simp; (try simp only [hge]); try with_reducible rfl))); simp only [Act.put, List.getElem_toArray, List.getElem_cons_succ, List.getElem_cons_zero, List.setIfInBounds_toArray, List.set_cons_zero, List.set_cons_succ]
  (refine anyHeld_take 13 (v := ?_) (by kernel_rfl) rfl (by kernel_rfl) (by kernel_rfl) (by kernel_rfl) (fun _ _ _ h => h) ⟨Or.inl ⟨by rfl, ?_⟩, fun _ _ _ => trivial⟩ (by with_reducible exact HSx.out) ?_; rotate_left; (focus (rintro w ⟨q1, q2, q3, q4, ⟨q5, q6, q7, q8⟩, q9⟩; go_simp; (try simp only [hge]); try with_reducible rfl))); simp only [Act.put, List.getElem_toArray, List.getElem_cons_succ, List.getElem_cons_zero, List.setIfInBounds_toArray, List.set_cons_zero, List.set_cons_succ]
  (refine anyHeld_take 14 (v := ?_) (by kernel_rfl) rfl (by kernel_rfl) (by kernel_rfl) (by kernel_rfl) (fun _ _ _ h => h) ⟨Or.inl ⟨by rfl, ?_⟩, fun _ _ _ => trivial⟩ (by with_reducible exact HSx.out) ?_; rotate_left; (focus (rintro w ⟨q1, q2, q3, q4, ⟨q5, q6, q7, q8⟩, q9⟩; go_simp; (try simp only [hge]); try with_reducible rfl))); simp only [Act.put, List.getElem_toArray, List.getElem_cons_succ, List.getElem_cons_zero, List.setIfInBounds_toArray, List.set_cons_zero, List.set_cons_succ]
  (refine anyHeld_take 15 (v := ?_) (by kernel_rfl) rfl (by kernel_rfl) (by kernel_rfl) (by kernel_rfl) (fun _ _ _ h => h) ⟨Or.inl ⟨by rfl, ?_⟩, fun _ _ _ => trivial⟩ (by with_reducible exact HSx.out) ?_; rotate_left; (focus (rintro w ⟨q1, q2, q3, q4, ⟨q5, q6, q7, q8⟩, q9⟩; go_simp; (try simp only [hge]); try with_reducible rfl))); simp only [Act.put, List.getElem_toArray, List.getElem_cons_succ, List.getElem_cons_zero, List.setIfInBounds_toArray, List.set_cons_zero, List.set_cons_succ]
  (refine anyHeld_take 16 (v := ?_) (by kernel_rfl) rfl (by kernel_rfl) (by kernel_rfl) (by kernel_rfl) (fun _ _ _ h => h) ⟨Or.inl ⟨by rfl, ?_⟩, fun _ _ _ => trivial⟩ (by with_reducible exact HSx.out) ?_; rotate_left; (focus (rintro w ⟨q1, q2, q3, q4, ⟨q5, q6, q7, q8⟩, q9⟩; go_simp; (try simp only [hge]); try with_reducible rfl))); simp only [Act.put, List.getElem_toArray, List.getElem_cons_succ, List.getElem_cons_zero, List.setIfInBounds_toArray, List.set_cons_zero, List.set_cons_succ]
  (refine anyHeld_take 17 (v := ?_) (by kernel_rfl) rfl (by kernel_rfl) (by kernel_rfl) (by kernel_rfl) (fun _ _ _ h => h) ⟨Or.inl ⟨by rfl, ?_⟩, fun _ _ _ => trivial⟩ (by with_reducible exact HSx.out) ?_; rotate_left; (focus (rintro w ⟨q1, q2, q3, q4, ⟨q5, q6, q7, q8⟩, q9⟩; go_simp; (try simp only [hge]); try with_reducible rfl))); simp only [Act.put, List.getElem_toArray, List.getElem_cons_succ, List.getElem_cons_zero, List.setIfInBounds_toArray, List.set_cons_zero, List.set_cons_succ]
  (refine anyHeld_take 18 (v := ?_) (by kernel_rfl) rfl (by kernel_rfl) (by kernel_rfl) (by kernel_rfl) (fun _ _ _ h => h) ⟨Or.inl ⟨by rfl, ?_⟩, fun _ _ _ => trivial⟩ (by with_reducible exact HSx.out) ?_; rotate_left; (focus (rintro w ⟨q1, q2, q3, q4, ⟨q5, q6, q7, q8⟩, q9⟩; go_simp; (try simp only [hge]); try with_reducible rfl))); simp only [Act.put, List.getElem_toArray, List.getElem_cons_succ, List.getElem_cons_zero, List.setIfInBounds_toArray, List.set_cons_zero, List.set_cons_succ]
  (refine anyHeld_take 19 (v := ?_) (by kernel_rfl) rfl (by kernel_rfl) (by kernel_rfl) (by kernel_rfl) (fun _ _ _ h => h) ⟨Or.inl ⟨by rfl, ?_⟩, fun _ _ _ => trivial⟩ (by with_reducible exact HSx.out) ?_; rotate_left; (focus (rintro w ⟨q1, q2, q3, q4, ⟨q5, q6, q7, q8⟩, q9⟩; go_simp; (try simp only [hge]); try with_reducible rfl))); simp only [Act.put, List.getElem_toArray, List.getElem_cons_succ, List.getElem_cons_zero, List.setIfInBounds_toArray, List.set_cons_zero, List.set_cons_succ]
  (refine anyHeld_take 20 (v := ?_) (by kernel_rfl) rfl (by kernel_rfl) (by kernel_rfl) (by kernel_rfl) (fun _ _ _ h => h) ⟨Or.inl ⟨by rfl, ?_⟩, fun _ _ _ => trivial⟩ (by with_reducible exact HSx.out) ?_; rotate_left; (focus (rintro w ⟨q1, q2, q3, q4, ⟨q5, q6, q7, q8⟩, q9⟩; go_simp; (try simp only [hge]); try with_reducible rfl))); simp only [Act.put, List.getElem_toArray, List.getElem_cons_succ, List.getElem_cons_zero, List.setIfInBounds_toArray, List.set_cons_zero, List.set_cons_succ]
  (refine anyHeld_take 21 (v := ?_) (by kernel_rfl) rfl (by kernel_rfl) (by kernel_rfl) (by kernel_rfl) (fun _ _ _ h => h) ⟨Or.inl ⟨by rfl, ?_⟩, fun _ _ _ => trivial⟩ (by with_reducible exact HSx.out) ?_; rotate_left; (focus (rintro w ⟨q1, q2, q3, q4, ⟨q5, q6, q7, q8⟩, q9⟩; go_simp; (try simp only [hge]); try with_reducible rfl))); simp only [Act.put, List.getElem_toArray, List.getElem_cons_succ, List.getElem_cons_zero, List.setIfInBounds_toArray, List.set_cons_zero, List.set_cons_succ]
  (refine anyHeld_take 22 (v := ?_) (by kernel_rfl) rfl (by kernel_rfl) (by kernel_rfl) (by kernel_rfl) (fun _ _ _ h => h) ⟨Or.inl ⟨by rfl, ?_⟩, fun _ _ _ => trivial⟩ (by with_reducible exact HSx.out) ?_; rotate_left; (focus (rintro w ⟨q1, q2, q3, q4, ⟨q5, q6, q7, q8⟩, q9⟩; go_simp; (try simp only [hge]); try with_reducible rfl))); simp only [Act.put, List.getElem_toArray, List.getElem_cons_succ, List.getElem_cons_zero, List.setIfInBounds_toArray, List.set_cons_zero, List.set_cons_succ]
  (refine anyHeld_take 23 (v := ?_) (by kernel_rfl) rfl (by kernel_rfl) (by kernel_rfl) (by kernel_rfl) (fun _ _ _ h => h) ⟨Or.inl ⟨by rfl, ?_⟩, fun _ _ _ => trivial⟩ (by with_reducible exact HSx.out) ?_; rotate_left; (focus (rintro w ⟨q1, q2, q3, q4, ⟨q5, q6, q7, q8⟩, q9⟩; go_simp; (try simp only [hge]); try with_reducible rfl))); simp only [Act.put, List.getElem_toArray, List.getElem_cons_succ, List.getElem_cons_zero, List.setIfInBounds_toArray, List.set_cons_zero, List.set_cons_succ]
  (refine anyHeld_take 24 (v := ?_) (by kernel_rfl) rfl (by kernel_rfl) (by kernel_rfl) (by kernel_rfl) (fun _ _ _ h => h) ⟨Or.inl ⟨by rfl, ?_⟩, fun _ _ _ => trivial⟩ (by with_reducible exact HSx.out) ?_; rotate_left; (focus (rintro w ⟨q1, q2, q3, q4, ⟨q5, q6, q7, q8⟩, q9⟩; go_simp; (try simp only [hge]); try with_reducible rfl))); simp only [Act.put, List.getElem_toArray, List.getElem_cons_succ, List.getElem_cons_zero, List.setIfInBounds_toArray, List.set_cons_zero, List.set_cons_succ]
  (refine anyHeld_take 25 (v := ?_) (by kernel_rfl) rfl (by kernel_rfl) (by kernel_rfl) (by kernel_rfl) (fun _ _ _ h => h) ⟨Or.inl ⟨by rfl, ?_⟩, fun _ _ _ => trivial⟩ (by with_reducible exact HSx.out) ?_; rotate_left; (focus (rintro w ⟨q1, q2, q3, q4, ⟨q5, q6, q7, q8⟩, q9⟩; go_simp; (try simp only [hge]); try with_reducible rfl))); simp only [Act.put, List.getElem_toArray, List.getElem_cons_succ, List.getElem_cons_zero, List.setIfInBounds_toArray, List.set_cons_zero, List.set_cons_succ]
  (refine anyHeld_take 26 (v := ?_) (by kernel_rfl) rfl (by kernel_rfl) (by kernel_rfl) (by kernel_rfl) (fun _ _ _ h => h) ⟨Or.inl ⟨by rfl, ?_⟩, fun _ _ _ => trivial⟩ (by with_reducible exact HSx.out) ?_; rotate_left; (focus (rintro w ⟨q1, q2, q3, q4, ⟨q5, q6, q7, q8⟩, q9⟩; go_simp; (try simp only [hge]); try with_reducible rfl))); simp only [Act.put, List.getElem_toArray, List.getElem_cons_succ, List.getElem_cons_zero, List.setIfInBounds_toArray, List.set_cons_zero, List.set_cons_succ]
  (refine anyHeld_take 27 (v := ?_) (by kernel_rfl) rfl (by kernel_rfl) (by kernel_rfl) (by kernel_rfl) (fun _ _ _ h => h) ⟨Or.inl ⟨by rfl, ?_⟩, fun _ _ _ => trivial⟩ (by with_reducible exact HSx.out) ?_; rotate_left; (focus (rintro w ⟨q1, q2, q3, q4, ⟨q5, q6, q7, q8⟩, q9⟩; go_simp; (try simp only [hge]); try with_reducible rfl))); simp only [Act.put, List.getElem_toArray, List.getElem_cons_succ, List.getElem_cons_zero, List.setIfInBounds_toArray, List.set_cons_zero, List.set_cons_succ]
  (refine anyHeld_take 28 (v := ?_) (by kernel_rfl) rfl (by kernel_rfl) (by kernel_rfl) (by kernel_rfl) (fun _ _ _ h => h) ⟨Or.inl ⟨by rfl, ?_⟩, fun _ _ _ => trivial⟩ (by with_reducible exact HSx.out) ?_; rotate_left; (focus (rintro w ⟨q1, q2, q3, q4, ⟨q5, q6, q7, q8⟩, q9⟩; go_simp; (try simp only [hge]); try with_reducible rfl))); simp only [Act.put, List.getElem_toArray, List.getElem_cons_succ, List.getElem_cons_zero, List.setIfInBounds_toArray, List.set_cons_zero, List.set_cons_succ]
  refine anyHeld_done (by kernel_rfl) ?_ _
  have cC := CC.out
  by_cases hrd : rd = 1
  · have cC1 : W.cell? ⟨C, 0, none⟩ = some (.int .i64 1) := by rw [cC, hrd]; rfl
    clear cC
    have hlt := H2.out hrd
    by_cases hi1 : i = 1
    · have hii : (i : Int) + 1 = 2 := by omega
      gi_wp2
      have he := HE.out
      rw [hii] at he
      exact ⟨fun k => k = N, he.1, he.2.1, rfl, hrd, he.2.2.1, he.2.2.2, fun _ => Iff.rfl⟩
    · have hii : ¬ ((i : Int) + 1 = 2) := by omega
      gi_wp2
      exact ⟨fun k => k = N, HE.out.1, HE.out.2.1, HE.out.2.2.1, HE.out.2.2.2, fun _ => Iff.rfl, fun h => by have := HN.out.2; have := H2.out h; simp; omega⟩
  · have hrd2 : ¬ ((rd : Int) = 1) := by omega
    gi_wp2
    exact ⟨fun k => k = N, HE.out.1, HE.out.2.1, HE.out.2.2.1, HE.out.2.2.2, fun _ => Iff.rfl, fun h => absurd h hrd⟩
def coll (D : Nat) : Deferred := { target := .collected D, args := #[] }
def RoundPost (B0 B1 B2 rd : Nat) (ds : List Deferred) (W : World) (e : Exit) (a : Act) (W' : World) : Prop :=
  e = .normal ∧ ∃ t C' D, a = ⟨t, coll D :: ds⟩ ∧ Fr ⟨t, []⟩ 70 [(3, .pointer (some ⟨B0, 0, none⟩)), (4, .pointer (some ⟨B1, 0, none⟩)), (5, .func (.func 62) #[] #[.pointer (some ⟨B2, 0, none⟩)]), (6, .pointer (some ⟨C', 0, none⟩))] ∧ Below W.heap.size W W' ∧ Blk W' C' 3 [.int .i64 ((rd : Int) + 1)] ∧ W.heap.size ≤ D ∧ W'.heap[D]? = some (.deferred (some []))
theorem round_end {B0 B1 B2 rd D nq : Nat} {ds : List Deferred} {W W' Wq : World} {v : Value} {t : Array Value} (hB : Below W.heap.size W W') (hD : W.heap.size + 1 ≤ D) (hDD : W'.heap[D]? = some (.deferred (some []))) (hq : Wq = W'.drewN nq) (hF : Fr ⟨t, []⟩ 70 [(3, .pointer (some ⟨B0, 0, none⟩)), (4, .pointer (some ⟨B1, 0, none⟩)), (5, .func (.func 62) #[] #[.pointer (some ⟨B2, 0, none⟩)]), (6, .pointer (some ⟨Wq.heap.size, 0, none⟩))]) (hv : v = .int .i64 ((rd : Int) + 1)) :
    RoundPost B0 B1 B2 rd ds W .normal ⟨t, coll D :: ds⟩ (Wq.alloc (.cells #[v] 3)) := by
  subst hq
  subst hv
  have b := Blk.new (W'.drewN nq) 3 [.int .i64 ((rd : Int) + 1)]
  have hDl : D < W'.heap.size := (Array.getElem?_eq_some_iff.1 hDD).1
  have k : Keeps (fun _ => False) W' ((W'.drewN nq).alloc (.cells #[.int .i64 ((rd : Int) + 1)] 3)) := ((Keeps.refl _ W').drewN nq).alloc _
  refine ⟨rfl, t, (W'.drewN nq).heap.size, D, rfl, hF, hB.trans (k.below hB.size (fun _ _ h => h)), b, by omega, ?_⟩
  exact (k.block D hDl (fun h => h)).trans hDD
set_option maxHeartbeats 4000000 in
set_option maxRecDepth 100000 in
theorem both_round (T R B0 B1 B2 C rd : Nat) (ST SR : Nat → Prop) (L : List (Nat × Bx)) (ds : List Deferred) (W : World) (hT : TrS W T ST L) (hR : RefS W R SR L) (b0 : Blk W B0 50 [.pointer (some ⟨R, 0, none⟩)]) (b2 : Blk W B2 48 [.pointer (some ⟨T, 0, none⟩)]) (bC : Blk W C 3 [.int .i64 (rd : Int)]) (hrd : rd < 3)
    (a : Act) (hF : Fr a 70 [(3, .pointer (some ⟨B0, 0, none⟩)), (4, .pointer (some ⟨B1, 0, none⟩)), (5, .func (.func 62) #[] #[.pointer (some ⟨B2, 0, none⟩)]), (6, .pointer (some ⟨C, 0, none⟩))]) :
    bothLoop.wpIn Fence.wide 9 Try.prog (RoundPost B0 B1 B2 rd ds W) { a with defers := ds } W := by
  revert hF
  refine fun hF => frames70 (P := fun a => Fr a 70 [(3, .pointer (some ⟨B0, 0, none⟩)), (4, .pointer (some ⟨B1, 0, none⟩)), (5, .func (.func 62) #[] #[.pointer (some ⟨B2, 0, none⟩)]), (6, .pointer (some ⟨C, 0, none⟩))] → bothLoop.wpIn Fence.wide 9 Try.prog (RoundPost B0 B1 B2 rd ds W) { a with defers := ds } W) ?_ a hF.1 hF.2.1 hF
  intro u0 u1 u2 u3 u4 u5 u6 u7 u8 u9 u10 u11 u12 u13 u14 u15 u16 u17 u18 u19 u20 u21 u22 u23 u24 u25 u26 u27 u28 u29 u30 u31 u32 u33 u34 u35 u36 u37 u38 u39 u40 u41 u42 u43 u44 u45 u46 u47 u48 u49 u50 u51 u52 u53 u54 u55 u56 u57 u58 u59 u60 u61 u62 u63 u64 u65 u66 u67 u68 u69 hF
  obtain rfl : u3 = .pointer (some ⟨B0, 0, none⟩) := hF.at_ 3 _ (by simp)
  obtain rfl : u4 = .pointer (some ⟨B1, 0, none⟩) := hF.at_ 4 _ (by simp)
  obtain rfl : u5 = .func (.func 62) #[] #[.pointer (some ⟨B2, 0, none⟩)] := hF.at_ 5 _ (by simp)
  obtain rfl : u6 = .pointer (some ⟨C, 0, none⟩) := hF.at_ 6 _ (by simp)
  clear hF
  have hrdI : (rd : Int) < 3 := by omega
  have cC := bC.cell 0
  simp only [List.getElem?_cons_zero] at cC
  conv => arg 4; whnf
  dsimp only
  have k1 := (Keeps.refl (fun _ => False) W).alloc (.cells #[.int .i64 0] 3)
  have hz1 : (W.alloc (.cells #[.int .i64 0] 3)).heap.size = W.heap.size + 1 := by simp
  have HT := Lib.hid (hT.kd k1)
  have H2 := Lib.hid (b2.keeps k1 (fun h => h))
  have HN := Lib.hid (Blk.new W 3 [.int .i64 0])
  have H0 := Lib.hid b0
  have HR := Lib.hid hR
  have HC := Lib.hid bC
  clear hT b2 b0 hR bC
  gi_wp2
  refine wpIn_range (gf := 62) (lb := #[.pointer (some ⟨B2, 0, none⟩)]) (encs := fun x : Nat × Bx => #[.int .u32 (x.1 : Int), .agg #[.int .i32 x.2.x0, .int .i32 x.2.y0, .int .i32 x.2.x1, .int .i32 x.2.y1]]) (xs := L) (A := fun _ => True) rfl (enters_of Try.func62 (by kernel_rfl) rfl)
    (fun W1 hk => all_gives 8 B2 T ST L W1 (H2.out.keeps hk (fun h => h)) (HT.out.kd hk)) (fun _ => rfl)
    (BothI rd W.heap.size W) (BothX rd W.heap.size W) (both_stab _ _ _ _ (by omega)) (bothx_stab _ _ _ _ (by omega))
    (fun k => k = W.heap.size) (fun k hk => by rw [hz1]; omega) ⟨HN.out, (Below.refl _ W).alloc (Nat.le_refl _) _, fun _ => Iff.rfl, fun _ => by simp⟩ (fun _ _ => trivial)
    (BothM rd W.heap.size B0 B1 B2 C W) (bothm_stab _ _ _ _ _ _ _ _ (by omega)) ?assign ?body ?done ?stop
  case assign =>
    rintro l pre x rest S W' hxs ⟨hNb, hB, hS, h2⟩ hin hlt
    gi_wp2
    refine ⟨fun k => k = W.heap.size ∨ k = W'.heap.size, ⟨(Keeps.refl S W').alloc _, fun k hk => ?_⟩, fun k hk => ?_, W'.heap.size, ⟨rfl, rfl, by simp⟩, Blk.new W' 47 (boxCs x.2), hNb.alloc _, hB.alloc hB.size _, fun _ => Iff.rfl, by omega, h2⟩
    · rcases hk with h | h
      · exact .inl ((hS k).2 h)
      · exact .inr (by omega)
    · simp
      rcases hk with h | h <;> omega
  case body =>
    intro l pre x rest a1 S W' hxs hM hin hlt
    exact both_body l R B0 B1 B2 C rd W.heap.size SR L W HR.out H0.out HC.out (Nat.le_refl _) pre x rest a1 S W' hxs hM hin
  case done =>
    rintro D S' W' hD hnD hf hin ⟨hNb, hB, hS, h2⟩ hDD
    have kW := Keeps.of_below0 hB
    have hz := hB.size
    obtain ⟨ai, ci, ab, cb, hr2, hri, hel, hln, hSS⟩ := HR.out.kd kW
    obtain ⟨n, hn⟩ : ∃ n : Nat, n = L.length := ⟨_, rfl⟩
    have cR := hr2.1.cell
    rw [← hn] at cR hNb hln
    have hnI : (n : Int) ≤ 65536 := by omega
    have c0 := (H0.out.below hB H0.out.lt).cell
    have cC := (HC.out.below hB HC.out.lt).cell 0
    have cN := hNb.cell 0
    simp only [List.getElem?_cons_zero] at cC cN
    have HB := Lib.hid hB
    have HD := Lib.hid (And.intro hD hDD)
    have hne : ((n : Int) != (n : Int)) = false := by simp
    clear hr2 hri hel hln hSS hNb hB hDD hS h2 hn hin hf hD hnD kW
    by_cases hrd1 : rd = 1
    · have cC1 : W'.cell? ⟨C, 0, none⟩ = some (.int .i64 1) := by rw [cC, hrd1]; rfl
      clear cC
      gi_wp2
      refine wpIn_wide.2 ?_
      go_quiet (fail)
      have cq : (W'.drewN nq).cell? ⟨C, 0, none⟩ = some (.int .i64 1) := cC1
      clear cC1
      obtain ⟨Wq, hq⟩ : ∃ Wq, Wq = W'.drewN nq := ⟨_, rfl⟩
      rw [← hq] at cq ⊢
      have HQ := Lib.hid hq
      clear hq
      gi_wp2
      exact round_end (t := _) HB.out (by have := HD.out.1; simpa using this) HD.out.2 HQ.out (by exact ⟨rfl, rfl, by simp⟩) (by first | rfl | (rw [hrd1]; rfl))
    · have hrd2 : ¬ ((rd : Int) = 1) := by omega
      gi_wp2
      refine wpIn_wide.2 ?_
      go_quiet (fail)
      have cq : (W'.drewN nq).cell? ⟨C, 0, none⟩ = some (.int .i64 (rd : Int)) := cC
      clear cC
      obtain ⟨Wq, hq⟩ : ∃ Wq, Wq = W'.drewN nq := ⟨_, rfl⟩
      rw [← hq] at cq ⊢
      have HQ := Lib.hid hq
      clear hq
      gi_wp2
      exact round_end (t := _) HB.out (by have := HD.out.1; simpa using this) HD.out.2 HQ.out (by exact ⟨rfl, rfl, by simp⟩) (by first | rfl | (rw [hrd1]; rfl))
  case stop =>
    rintro D c0 pre S' W' hD hnD hf hin hpre ⟨rfl, rfl, hNb, hB, hS⟩ hDD
    have hz := hB.size
    have cC1 := (HC.out.below hB HC.out.lt).cell 0
    simp only [List.getElem?_cons_zero] at cC1
    have HB := Lib.hid hB
    have HD := Lib.hid (And.intro hD hDD)
    clear hNb hB hDD hS hin hf hD hnD
    gi_wp2
    refine wpIn_wide.2 ?_
    go_quiet (fail)
    have cq : (W'.drewN nq).cell? ⟨C, 0, none⟩ = some (.int .i64 1) := cC1
    clear cC1
    obtain ⟨Wq, hq⟩ : ∃ Wq, Wq = W'.drewN nq := ⟨_, rfl⟩
    rw [← hq] at cq ⊢
    have HQ := Lib.hid hq
    clear hq
    gi_wp2
    exact round_end (t := _) HB.out (by have := HD.out.1; simpa using this) HD.out.2 HQ.out (by exact ⟨rfl, rfl, by simp⟩) (by first | rfl | (rw [hrd1]; rfl))
theorem both_rd (T R B0 B1 B2 C rd : Nat) (ST SR : Nat → Prop) (L : List (Nat × Bx)) (ds : List Deferred) (W : World) (t : Array Value) (hF : Fr ⟨t, []⟩ 70 [(3, .pointer (some ⟨B0, 0, none⟩)), (4, .pointer (some ⟨B1, 0, none⟩)), (5, .func (.func 62) #[] #[.pointer (some ⟨B2, 0, none⟩)]), (6, .pointer (some ⟨C, 0, none⟩))]) (hT : TrS W T ST L) (hR : RefS W R SR L) (b0 : Blk W B0 50 [.pointer (some ⟨R, 0, none⟩)]) (b2 : Blk W B2 48 [.pointer (some ⟨T, 0, none⟩)]) (bC : Blk W C 3 [.int .i64 (rd : Int)]) (hrd : rd < 3) :
    bothLoop.wpIn Fence.wide 9 Try.prog (RoundPost B0 B1 B2 rd ds W) ⟨t, ds⟩ W := both_round T R B0 B1 B2 C rd ST SR L ds W hT hR b0 b2 bC hrd ⟨t, []⟩ hF
def EndPost (B1 : Nat) (ds : List Deferred) (W : World) (e : Exit) (a : Act) (W' : World) : Prop := e = .exit 0 ∧ ∃ t, a = ⟨t, ds⟩ ∧ Fr ⟨t, []⟩ 70 [(4, .pointer (some ⟨B1, 0, none⟩))] ∧ W' = W
set_option maxHeartbeats 4000000 in
set_option maxRecDepth 100000 in
theorem both_end (B0 B1 B2 C : Nat) (ds : List Deferred) (W : World) (bC : Blk W C 3 [.int .i64 3]) (a : Act) (hF : Fr a 70 [(3, .pointer (some ⟨B0, 0, none⟩)), (4, .pointer (some ⟨B1, 0, none⟩)), (5, .func (.func 62) #[] #[.pointer (some ⟨B2, 0, none⟩)]), (6, .pointer (some ⟨C, 0, none⟩))]) :
    bothLoop.wpIn Fence.wide 9 Try.prog (EndPost B1 ds W) { a with defers := ds } W := by
  revert hF
  refine fun hF => frames70 (P := fun a => Fr a 70 [(3, .pointer (some ⟨B0, 0, none⟩)), (4, .pointer (some ⟨B1, 0, none⟩)), (5, .func (.func 62) #[] #[.pointer (some ⟨B2, 0, none⟩)]), (6, .pointer (some ⟨C, 0, none⟩))] → bothLoop.wpIn Fence.wide 9 Try.prog (EndPost B1 ds W) { a with defers := ds } W) ?_ a hF.1 hF.2.1 hF
  intro u0 u1 u2 u3 u4 u5 u6 u7 u8 u9 u10 u11 u12 u13 u14 u15 u16 u17 u18 u19 u20 u21 u22 u23 u24 u25 u26 u27 u28 u29 u30 u31 u32 u33 u34 u35 u36 u37 u38 u39 u40 u41 u42 u43 u44 u45 u46 u47 u48 u49 u50 u51 u52 u53 u54 u55 u56 u57 u58 u59 u60 u61 u62 u63 u64 u65 u66 u67 u68 u69 hF
  obtain rfl : u3 = .pointer (some ⟨B0, 0, none⟩) := hF.at_ 3 _ (by simp)
  obtain rfl : u4 = .pointer (some ⟨B1, 0, none⟩) := hF.at_ 4 _ (by simp)
  obtain rfl : u5 = .func (.func 62) #[] #[.pointer (some ⟨B2, 0, none⟩)] := hF.at_ 5 _ (by simp)
  obtain rfl : u6 = .pointer (some ⟨C, 0, none⟩) := hF.at_ 6 _ (by simp)
  clear hF
  have cC := bC.cell 0
  simp only [List.getElem?_cons_zero] at cC
  conv => arg 4; whnf
  dsimp only
  clear bC
  gi_wp2
  exact ⟨rfl, _, rfl, ⟨rfl, rfl, by simp⟩, rfl⟩
theorem both_en (B0 B1 B2 C : Nat) (ds : List Deferred) (W : World) (t : Array Value) (hF : Fr ⟨t, []⟩ 70 [(3, .pointer (some ⟨B0, 0, none⟩)), (4, .pointer (some ⟨B1, 0, none⟩)), (5, .func (.func 62) #[] #[.pointer (some ⟨B2, 0, none⟩)]), (6, .pointer (some ⟨C, 0, none⟩))]) (bC : Blk W C 3 [.int .i64 3]) :
    bothLoop.wpIn Fence.wide 9 Try.prog (EndPost B1 ds W) ⟨t, ds⟩ W := both_end B0 B1 B2 C ds W bC ⟨t, []⟩ hF
theorem eq_seq2 (gf : Nat) (lb : Array Value) (W : World) : (binOp .eql 105 (.func (.func gf) #[] lb) .nilFunc).run Try.prog W = .ok (.bool false) W := by kernel_rfl
set_option maxHeartbeats 4000000 in
set_option maxRecDepth 100000 in
theorem all_both (T R : Nat) (ST SR : Nat → Prop) (L : List (Nat × Bx)) (w : World) (hT : TrS w T ST L) (hR : RefS w R SR L) :
    Calls Try.prog 28 #[.pointer (some ⟨T, 0, none⟩), .pointer (some ⟨R, 0, none⟩)] w (Same true w) := by
  refine (callsIn_wide (n := 9)).1 ?_
  refine callsIn_of_wp_marks Try.func28 rfl trivial ?_ rfl
  simp only [Try.ntmps28, List.size_toArray, List.length_cons, List.length_nil, Nat.reduceAdd, Nat.reduceSub, Array.replicate_succ, Array.replicate_zero, List.push_toArray, List.append_toArray, List.nil_append, List.cons_append]
  have heq := eq_seq2 62
  have HT := Lib.hid hT
  have HR := Lib.hid hR
  clear hT hR
  gi_wp2_with (refine ⟨trivial, ?_⟩; gi_at_call 51; refine (callsIn_wide.2 (all_any _ _)).mono ?_; rintro e w1 ⟨rfl, rfl⟩)
  have k0 := (((Keeps.refl (fun _ => False) w).alloc (.cells #[.pointer (some ⟨R, 0, none⟩)] 50)).alloc (.cells #[.bool false] 4)).alloc (.cells #[.pointer (some ⟨T, 0, none⟩)] 48)
  have k1 := k0.alloc (.cells #[.int .i64 0] 3)
  have b0 := (((Blk.new w 50 [.pointer (some ⟨R, 0, none⟩)]).alloc (.cells #[.bool false] 4)).alloc (.cells #[.pointer (some ⟨T, 0, none⟩)] 48)).alloc (.cells #[.int .i64 0] 3)
  have b1 := ((Blk.new (w.alloc (.cells #[.pointer (some ⟨R, 0, none⟩)] 50)) 4 [.bool false]).alloc (.cells #[.pointer (some ⟨T, 0, none⟩)] 48)).alloc (.cells #[.int .i64 0] 3)
  have b2 := (Blk.new ((w.alloc (.cells #[.pointer (some ⟨R, 0, none⟩)] 50)).alloc (.cells #[.bool false] 4)) 48 [.pointer (some ⟨T, 0, none⟩)]).alloc (.cells #[.int .i64 0] 3)
  have bC := Blk.new (((w.alloc (.cells #[.pointer (some ⟨R, 0, none⟩)] 50)).alloc (.cells #[.bool false] 4)).alloc (.cells #[.pointer (some ⟨T, 0, none⟩)] 48)) 3 [.int .i64 0]
  simp only [World.size_alloc] at b0 b1 b2 bC
  obtain ⟨B1, hB1⟩ : ∃ B1, B1 = w.heap.size + 1 := ⟨_, rfl⟩
  obtain ⟨B2, hB2⟩ : ∃ B2, B2 = B1 + 1 := ⟨_, rfl⟩
  obtain ⟨C, hC⟩ : ∃ C, C = B2 + 1 := ⟨_, rfl⟩
  rw [← hB1] at b1 b2 bC
  rw [← hB2] at b2 bC
  rw [← hC] at bC
  obtain ⟨W, hW⟩ : ∃ W, W = (((w.alloc (.cells #[.pointer (some ⟨R, 0, none⟩)] 50)).alloc (.cells #[.bool false] 4)).alloc (.cells #[.pointer (some ⟨T, 0, none⟩)] 48)).alloc (.cells #[.int .i64 0] 3) := ⟨_, rfl⟩
  have hT := HT.out.kd k1
  have hR := HR.out.kd k1
  rw [← hB1, ← hB2, ← hC, ← hW]
  rw [← hW] at k1 b0 b1 b2 bC hT hR
  clear k0 hW heq
  refine wpIn_loop_rounds 4 (?_ : bothLoop.wpIn _ _ _ _ _ _)
  refine wpIn_mono (both_rd T R w.heap.size B1 B2 C 0 ST SR L [] W _ (by exact ⟨rfl, rfl, by simp⟩) hT hR b0 b2 bC (by omega)) ?_
  rintro e a1 W1 ⟨rfl, t1, C1, D1, rfl, hF1, w1, bC1, hD1, hDD1⟩
  have q1 := Keeps.of_below0 w1
  refine wpIn_mono (both_rd T R w.heap.size B1 B2 C1 1 ST SR L [coll D1] W1 t1 hF1 (hT.kd q1) (hR.kd q1) (b0.keeps q1 (fun h => h)) (b2.keeps q1 (fun h => h)) bC1 (by omega)) ?_
  rintro e a2 W2 ⟨rfl, t2, C2, D2, rfl, hF2, w2, bC2, hD2, hDD2⟩
  have q2 := q1.trans (Keeps.of_below0 w2 |>.mono (fun _ _ h => h))
  refine wpIn_mono (both_rd T R w.heap.size B1 B2 C2 2 ST SR L [coll D2, coll D1] W2 t2 hF2 (hT.kd q2) (hR.kd q2) (b0.keeps q2 (fun h => h)) (b2.keeps q2 (fun h => h)) bC2 (by omega)) ?_
  rintro e a3 W3 ⟨rfl, t3, C3, D3, rfl, hF3, w3, bC3, hD3, hDD3⟩
  have q3 := q2.trans (Keeps.of_below0 w3 |>.mono (fun _ _ h => h))
  refine wpIn_mono (both_en w.heap.size B1 B2 C3 [coll D3, coll D2, coll D1] W3 t3 hF3 bC3) ?_
  rintro e a4 W4 ⟨rfl, t4, rfl, hF4, rfl⟩
  have h4 : t4.getD 4 undef = .pointer (some ⟨B1, 0, none⟩) := hF4.2.2 (4, _) (by simp)
  have h4' : t4[4]?.getD undef = .pointer (some ⟨B1, 0, none⟩) := by simpa using h4
  have b1' := b1.keeps q3 (fun h => h)
  have c1 := b1'.cell 0
  have f1 := b1'.frozen 0
  simp only [List.getElem?_cons_zero] at c1
  have B1' := Lib.hid b1'
  have HQ := Lib.hid (k1.trans q3)
  have HD := Lib.hid (And.intro hDD1 (And.intro hDD2 hDD3))
  have hB1W : B1 < W.heap.size := b1.lt
  have HBW := Lib.hid hB1W
  have HB1 := Lib.hid hB1
  have HDs := Lib.hid (And.intro hD1 (And.intro hD2 hD3))
  have HWs := Lib.hid (And.intro w2 w3)
  clear b0 b1 b2 bC bC1 bC2 bC3 hF1 hF2 hF3 hF4 hT hR b1' hDD1 hDD2 hDD3 hB1 hB2 hC hD1 hD2 hD3 hB1W w1 w2 w3 k1 q1 q2 q3
  gi_wp2
  have hb := B1'.out.lt
  have bb := B1'.out.set_ 0 (.bool true)
  obtain ⟨e1, e2, e3⟩ := HD.out
  obtain ⟨g1, g2, g3⟩ := HDs.out
  obtain ⟨z1, z2⟩ := HWs.out
  have l1 : D1 < W1.heap.size := (Array.getElem?_eq_some_iff.1 e1).1
  have l2 : D2 < W2.heap.size := (Array.getElem?_eq_some_iff.1 e2).1
  have l3 : D3 < W4.heap.size := (Array.getElem?_eq_some_iff.1 e3).1
  have zz := z1.size
  have zz2 := z2.size
  have hw := HB1.out
  have hWB : B1 < W.heap.size := HBW.out
  have kq := HQ.out
  have n2 : W4.heap[D2]? = some (.deferred (some [])) := ((Keeps.of_below0 z2).block D2 l2 (fun h => h)).trans e2
  have n1 : W4.heap[D1]? = some (.deferred (some [])) := ((Keeps.of_below0 z2).block D1 (by omega) (fun h => h)).trans (((Keeps.of_below0 z1).block D1 l1 (fun h => h)).trans e1)
  have s0 : Keeps (fun k => k = B1) W4 (W4.setCell ⟨B1, 0, none⟩ (.bool true)) := (Keeps.refl (fun k => k = B1) W4).setCell (p := ⟨B1, 0, none⟩) (fun _ => rfl) _
  have m3 := (s0.block D3 l3 (by omega)).trans e3
  have m2 := (s0.block D2 (by omega) (by omega)).trans n2
  have m1 := (s0.block D1 (by omega) (by omega)).trans n1
  obtain ⟨Ws, hWs⟩ : ∃ Ws, Ws = W4.setCell ⟨B1, 0, none⟩ (.bool true) := ⟨_, rfl⟩
  rw [← hWs] at bb s0 m1 m2 m3 ⊢
  have p3 := keeps_putObj Ws D3 (.deferred none)
  have v2 := (p3.block D2 (Array.getElem?_eq_some_iff.1 m2).1 (by omega)).trans m2
  have v1 := (p3.block D1 (Array.getElem?_eq_some_iff.1 m1).1 (by omega)).trans m1
  have p2 := keeps_putObj (Ws.putObj D3 (.deferred none)) D2 (.deferred none)
  have u1 := (p2.block D1 (Array.getElem?_eq_some_iff.1 v1).1 (by omega)).trans v1
  have p1 := keeps_putObj ((Ws.putObj D3 (.deferred none)).putObj D2 (.deferred none)) D1 (.deferred none)
  have bf := ((bb.keeps p3 (by omega)).keeps p2 (by omega)).keeps p1 (by omega)
  have cf := bf.cell 0
  have ff := bf.frozen 0
  have kk := (((kq.then s0 (fun i hi e => by omega)).then p3 (fun i hi e => by omega)).then p2 (fun i hi e => by omega)).then p1 (fun i hi e => by omega)
  refine ⟨by simp, .inl ⟨_, _, rfl, run_takeDeferred m3, ?_⟩⟩
  refine ⟨by simp, .inl ⟨_, _, rfl, run_takeDeferred v2, ?_⟩⟩
  refine ⟨by simp, .inl ⟨_, _, rfl, run_takeDeferred u1, ?_⟩⟩
  refine ⟨.bool true, ?_, rfl, kk⟩
  simp [results, go_sem, h4', cf]
end Tree
end Go.Proofs.Ytndghakagogmcaa
