/-
  GrH: told at one cell: the round.
-/
import Derived.Test.YtppiohmnbffndaaGrG
namespace Go.Proofs.Ytppiohmnbffndaa
open Go.RowKit Go.Shelf
set_option linter.unusedVariables false
set_option linter.unusedSimpArgs false
attribute [local go_sem] Oper.semAt_some
namespace Gr
open Mem
theorem frames36 {P : Act → Prop} (hP : ∀ u0 u1 u2 u3 u4 u5 u6 u7 u8 u9 u10 u11 u12 u13 u14 u15 u16 u17 u18 u19 u20 u21 u22 u23 u24 u25 u26 u27 u28 u29 u30 u31 u32 u33 u34 u35 : Value, P ⟨#[u0, u1, u2, u3, u4, u5, u6, u7, u8, u9, u10, u11, u12, u13, u14, u15, u16, u17, u18, u19, u20, u21, u22, u23, u24, u25, u26, u27, u28, u29, u30, u31, u32, u33, u34, u35], []⟩) : ∀ a : Act, a.tmps.size = 36 → a.defers = [] → P a := by
  rintro ⟨⟨t⟩, d⟩ h1 h2
  simp only [List.size_toArray] at h1 h2
  subst h2
  have h := unroll t 36 h1
  have e : (List.range 36).map (fun i => t.getD i undef) = [t.getD 0 undef, t.getD 1 undef, t.getD 2 undef, t.getD 3 undef, t.getD 4 undef, t.getD 5 undef, t.getD 6 undef, t.getD 7 undef, t.getD 8 undef, t.getD 9 undef, t.getD 10 undef, t.getD 11 undef, t.getD 12 undef, t.getD 13 undef, t.getD 14 undef, t.getD 15 undef, t.getD 16 undef, t.getD 17 undef, t.getD 18 undef, t.getD 19 undef, t.getD 20 undef, t.getD 21 undef, t.getD 22 undef, t.getD 23 undef, t.getD 24 undef, t.getD 25 undef, t.getD 26 undef, t.getD 27 undef, t.getD 28 undef, t.getD 29 undef, t.getD 30 undef, t.getD 31 undef, t.getD 32 undef, t.getD 33 undef, t.getD 34 undef, t.getD 35 undef] := rfl
  exact Eq.mpr (congrArg (fun l : List Value => P ⟨⟨l⟩, []⟩) (h.trans e)) (hP (t.getD 0 undef) (t.getD 1 undef) (t.getD 2 undef) (t.getD 3 undef) (t.getD 4 undef) (t.getD 5 undef) (t.getD 6 undef) (t.getD 7 undef) (t.getD 8 undef) (t.getD 9 undef) (t.getD 10 undef) (t.getD 11 undef) (t.getD 12 undef) (t.getD 13 undef) (t.getD 14 undef) (t.getD 15 undef) (t.getD 16 undef) (t.getD 17 undef) (t.getD 18 undef) (t.getD 19 undef) (t.getD 20 undef) (t.getD 21 undef) (t.getD 22 undef) (t.getD 23 undef) (t.getD 24 undef) (t.getD 25 undef) (t.getD 26 undef) (t.getD 27 undef) (t.getD 28 undef) (t.getD 29 undef) (t.getD 30 undef) (t.getD 31 undef) (t.getD 32 undef) (t.getD 33 undef) (t.getD 34 undef) (t.getD 35 undef))
noncomputable def toldBody : Code := (rbods (Try.f31.body.getD .skip)).getD 0 .skip
def u32v (V : List Nat) : List Value := V.map fun x : Nat => .int .u32 (x : Int)
def ToldI (w : World) (B : Nat) (V : List Nat) (pre : List (Int × Int)) (S : Nat → Prop) (W : World) : Prop :=
  Below w.heap.size w W ∧ ((pre = [] ∧ Blk W B 53 [.slice none 0 0] ∧ ∀ k, S k ↔ k = B) ∨
    (pre ≠ [] ∧ ∃ a cp, Blk W B 53 [.slice a V.length cp] ∧ W.ownsRow w.heap.size 35 1 (.slice a V.length cp) V.length (u32v V) ∧ ∀ k, S k ↔ k = B ∨ (Value.slice a V.length cp).ownBlock = some k))
theorem below_keeps {W0 W W' : World} {T : Nat → Prop} {b : Nat} (h : Below W0.heap.size W0 W) (hk : Keeps T W W') (hb : W0.heap.size ≤ b) (ht : ∀ k, T k → b ≤ k) : Below W0.heap.size W0 W' :=
  h.trans ⟨hk.os, hk.tape, hk.output, hk.size, fun k hk' => hk.block k (by have := h.size; omega) (fun h => by have := ht _ h; omega)⟩
theorem toldi_stab (w : World) (B : Nat) (V : List Nat) (b : Nat) (hb : w.heap.size ≤ b) : Stab b (ToldI w B V) := by
  intro pre S T W W' ⟨h1, h2⟩ hin hk hd ht
  refine ⟨below_keeps h1 hk hb ht, ?_⟩
  rcases h2 with ⟨rfl, h3, h4⟩ | ⟨hp, a, cp, h3, h4, h5⟩
  · exact .inl ⟨rfl, h3.keeps hk (hd _ ((h4 _).2 rfl)), h4⟩
  · exact .inr ⟨hp, a, cp, h3.keeps hk (hd _ ((h5 _).2 (.inl rfl))), owns_keeps h4 hk (fun k hk' => hd _ ((h5 _).2 (.inr hk'))), h5⟩
def ToldM (w : World) (B27 B : Nat) (s : List (Int × Int) × (Int × Int) × Act) (S : Nat → Prop) (W : World) : Prop :=
  ∃ X, Fr s.2.2 36 [(2, .pointer (some ⟨B27, 0, none⟩)), (5, .pointer (some ⟨B, 0, none⟩)), (7, .pointer (some ⟨X, 0, none⟩))] ∧ Blk W X 73 [.int .i32 s.2.1.1, .int .i32 s.2.1.2] ∧ Below w.heap.size w W ∧ (s.1 = [] → Blk W B 53 [.slice none 0 0]) ∧ (∀ k, S k ↔ k = B ∨ k = X)
theorem toldm_stab (w : World) (B27 B b : Nat) (hb : w.heap.size ≤ b) : Stab b (ToldM w B27 B) := by
  intro s S T W W' h hin hk hd ht
  obtain ⟨X, hF, h1, h2, h3, h4⟩ := h
  exact ⟨X, hF, h1.keeps hk (hd _ ((h4 _).2 (.inr rfl))), below_keeps h2 hk hb ht, fun e => (h3 e).keeps hk (hd _ ((h4 _).2 (.inl rfl))), h4⟩
set_option maxHeartbeats 4000000 in
set_option maxRecDepth 100000 in
theorem told_body (l : Nat) (w : World) (G r1 r2 r3 g cap B27 B : Nat) (c : Int) (vv : Value) (V : List Nat) (hG : Blk w G 65 [.int .i64 10, .map (some r1), .map (some r2), .map (some r3)]) (b27 : Blk w B27 27 [.pointer (some ⟨G, 0, none⟩)]) (hM0 : Mp w r2 #[⟨.agg #[.int .i32 0, .int .i32 0], .slice (some ⟨g, 0, none⟩) 1 cap, 0⟩] 1) (hO0 : w.ownsRow 0 35 1 (.slice (some ⟨g, 0, none⟩) 1 cap) 1 [.int .u32 4]) (hBw : w.heap.size ≤ B)
    (hlk : ∀ W : World, Mp W r2 #[⟨.agg #[.int .i32 0, .int .i32 0], .slice (some ⟨g, 0, none⟩) 1 cap, 0⟩] 1 → (Instr.lookup 62 (.map (some r2)) (.agg #[.int .i32 c, .int .i32 0]) false).run Try.prog W = .ok vv W)
    (hvv : (vv = .slice (some ⟨g, 0, none⟩) 1 cap ∧ V = [4]) ∨ (vv = .slice none 0 0 ∧ V = []))
    (S : Nat → Prop) (W : World) (a : Act) (hM : ToldM w B27 B ([], (c, 0), a) S W) (hin : Inb S W) : toldBody.wpIn (Fence.wide.inRound l) 7 Try.prog (Mem.Left (ToldI w B V) (fun _ _ _ _ => False) ([] ++ [((c : Int), (0 : Int))]) S W) a W := by
  obtain ⟨X, hF, hX, hK, hB, hS⟩ := hM
  have hB := hB rfl
  simp only at hF hX
  revert hF
  refine fun hF => frames36 (P := fun a => Fr a 36 [(2, .pointer (some ⟨B27, 0, none⟩)), (5, .pointer (some ⟨B, 0, none⟩)), (7, .pointer (some ⟨X, 0, none⟩))] → toldBody.wpIn (Fence.wide.inRound l) 7 Try.prog (Mem.Left (ToldI w B V) (fun _ _ _ _ => False) ([] ++ [((c : Int), (0 : Int))]) S W) a W) ?_ a hF.1 hF.2.1 hF
  intro u0 u1 u2 u3 u4 u5 u6 u7 u8 u9 u10 u11 u12 u13 u14 u15 u16 u17 u18 u19 u20 u21 u22 u23 u24 u25 u26 u27 u28 u29 u30 u31 u32 u33 u34 u35 hF
  obtain rfl : u2 = .pointer (some ⟨B27, 0, none⟩) := hF.at_ 2 _ (by simp)
  obtain rfl : u5 = .pointer (some ⟨B, 0, none⟩) := hF.at_ 5 _ (by simp)
  obtain rfl : u7 = .pointer (some ⟨X, 0, none⟩) := hF.at_ 7 _ (by simp)
  clear hF
  have kW : Keeps (fun k => w.heap.size ≤ k) w W := Keeps.of_below hK
  have n1 : ¬ w.heap.size ≤ G := by have := hG.lt; omega
  have n2 : ¬ w.heap.size ≤ B27 := by have := b27.lt; omega
  have n3 : ¬ w.heap.size ≤ r2 := by have := hM0.lt; omega
  have hg := hO0.lt g (by simp [Value.ownBlock])
  have n4 : ¬ w.heap.size ≤ g := by omega
  have hBX : B ≠ X := hB.ne_ hX (by decide)
  have hO1 := owns_keeps hO0 kW (fun b hb e => n4 (by simp [Value.ownBlock] at hb; omega))
  have HSN := Lib.hid (show ∀ W', Keeps (fun k => k = B) W W' → (∀ i : Nat, W'.cell? ⟨B27, i, none⟩ = ([.pointer (some ⟨G, 0, none⟩)] : List Value)[i]?) ∧ (∀ i : Nat, W'.cell? ⟨G, i, none⟩ = ([.int .i64 10, .map (some r1), .map (some r2), .map (some r3)] : List Value)[i]?) ∧ (∀ i : Nat, W'.cell? ⟨X, i, none⟩ = ([.int .i32 c, .int .i32 0] : List Value)[i]?) ∧ Mp W' r2 #[⟨.agg #[.int .i32 0, .int .i32 0], .slice (some ⟨g, 0, none⟩) 1 cap, 0⟩] 1 from fun W' hk => ⟨((b27.keeps kW n2).keeps hk (fun e => n2 (by omega))).cell, ((hG.keeps kW n1).keeps hk (fun e => n1 (by omega))).cell, (hX.keeps hk (fun e => hBX e.symm)).cell, (hM0.keeps kW n3).keeps hk (fun e => n3 (by omega))⟩)
  have hS0 : (∀ i : Nat, W.drew.cell? ⟨B27, i, none⟩ = ([.pointer (some ⟨G, 0, none⟩)] : List Value)[i]?) ∧ (∀ i : Nat, W.drew.cell? ⟨G, i, none⟩ = ([.int .i64 10, .map (some r1), .map (some r2), .map (some r3)] : List Value)[i]?) ∧ (∀ i : Nat, W.drew.cell? ⟨X, i, none⟩ = ([.int .i32 c, .int .i32 0] : List Value)[i]?) ∧ Mp W.drew r2 #[⟨.agg #[.int .i32 0, .int .i32 0], .slice (some ⟨g, 0, none⟩) 1 cap, 0⟩] 1 := HSN.out _ (Keeps.refl _ W).drew
  obtain ⟨i0, hi0, hz0, hz1, hz2⟩ := info_parts u32Info
  have HI := Lib.hid (And.intro hK (And.intro hS (And.intro hin (And.intro hB (And.intro hO1 (And.intro hBw hBX))))))
  have cB : W.drew.cell? ⟨B, 0, none⟩ = some (.slice none 0 0) := by have := hB.cell 0; simpa using this
  clear hK hS hin hG b27 hM0 n1 n2 n3 n4 hX hB hO1 hO0 kW hg hBX hBw
  conv => arg 4; whnf
  gi_wp2
  refine region_heldIn (fun W' => (∀ i : Nat, W'.cell? ⟨B27, i, none⟩ = ([.pointer (some ⟨G, 0, none⟩)] : List Value)[i]?) ∧ (∀ i : Nat, W'.cell? ⟨G, i, none⟩ = ([.int .i64 10, .map (some r1), .map (some r2), .map (some r3)] : List Value)[i]?) ∧ (∀ i : Nat, W'.cell? ⟨X, i, none⟩ = ([.int .i32 c, .int .i32 0] : List Value)[i]?) ∧ Mp W' r2 #[⟨.agg #[.int .i32 0, .int .i32 0], .slice (some ⟨g, 0, none⟩) 1 cap, 0⟩] 1) (by kernel_rfl) ?_
  (refine anyHeld_take 1 (v := ?_) (by kernel_rfl) rfl (by kernel_rfl) (by kernel_rfl) (by kernel_rfl) (fun _ _ _ h => h) ⟨Or.inl ⟨by rfl, ?_⟩, fun _ _ _ => trivial⟩ (by with_reducible assumption) ?_; rotate_left; (focus (rintro w ⟨q1, q2, q3, q5⟩; have q6 := hlk _ q5; clear q5; go_simp; try with_reducible rfl))); simp only [Act.put, List.getElem_toArray, List.getElem_cons_succ, List.getElem_cons_zero, List.setIfInBounds_toArray, List.set_cons_zero, List.set_cons_succ]
  (refine anyHeld_take 2 (v := ?_) (by kernel_rfl) rfl (by kernel_rfl) (by kernel_rfl) (by kernel_rfl) (fun _ _ _ h => h) ⟨Or.inl ⟨by rfl, ?_⟩, fun _ _ _ => trivial⟩ (by with_reducible assumption) ?_; rotate_left; (focus (rintro w ⟨q1, q2, q3, q5⟩; have q6 := hlk _ q5; clear q5; go_simp; try with_reducible rfl))); simp only [Act.put, List.getElem_toArray, List.getElem_cons_succ, List.getElem_cons_zero, List.setIfInBounds_toArray, List.set_cons_zero, List.set_cons_succ]
  (refine anyHeld_take 3 (v := ?_) (by kernel_rfl) rfl (by kernel_rfl) (by kernel_rfl) (by kernel_rfl) (fun _ _ _ h => h) ⟨Or.inl ⟨by rfl, ?_⟩, fun _ _ _ => trivial⟩ (by with_reducible assumption) ?_; rotate_left; (focus (rintro w ⟨q1, q2, q3, q5⟩; have q6 := hlk _ q5; clear q5; go_simp; try with_reducible rfl))); simp only [Act.put, List.getElem_toArray, List.getElem_cons_succ, List.getElem_cons_zero, List.setIfInBounds_toArray, List.set_cons_zero, List.set_cons_succ]
  (refine anyHeld_take 4 (v := ?_) (by kernel_rfl) rfl (by kernel_rfl) (by kernel_rfl) (by kernel_rfl) (fun _ _ _ h => h) ⟨Or.inl ⟨by rfl, ?_⟩, fun _ _ _ => trivial⟩ (by with_reducible assumption) ?_; rotate_left; (focus (rintro w ⟨q1, q2, q3, q5⟩; have q6 := hlk _ q5; clear q5; go_simp; try with_reducible rfl))); simp only [Act.put, List.getElem_toArray, List.getElem_cons_succ, List.getElem_cons_zero, List.setIfInBounds_toArray, List.set_cons_zero, List.set_cons_succ]
  (refine anyHeld_take 5 (v := ?_) (by kernel_rfl) rfl (by kernel_rfl) (by kernel_rfl) (by kernel_rfl) (fun _ _ _ h => h) ⟨Or.inl ⟨by rfl, ?_⟩, fun _ _ _ => trivial⟩ (by with_reducible assumption) ?_; rotate_left; (focus (rintro w ⟨q1, q2, q3, q5⟩; have q6 := hlk _ q5; clear q5; go_simp; try with_reducible rfl))); simp only [Act.put, List.getElem_toArray, List.getElem_cons_succ, List.getElem_cons_zero, List.setIfInBounds_toArray, List.set_cons_zero, List.set_cons_succ]
  (refine anyHeld_take 6 (v := ?_) (by kernel_rfl) rfl (by kernel_rfl) (by kernel_rfl) (by kernel_rfl) (fun _ _ _ h => h) ⟨Or.inl ⟨by rfl, ?_⟩, fun _ _ _ => trivial⟩ (by with_reducible assumption) ?_; rotate_left; (focus (rintro w ⟨q1, q2, q3, q5⟩; have q6 := hlk _ q5; clear q5; go_simp; try with_reducible rfl))); simp only [Act.put, List.getElem_toArray, List.getElem_cons_succ, List.getElem_cons_zero, List.setIfInBounds_toArray, List.set_cons_zero, List.set_cons_succ]
  refine anyHeld_one 0 (by kernel_rfl) rfl (by rfl) (fun K hK => ?_)
  go_simp
  refine hK _ _ hS0 ?_
  clear hK
  try simp only [Act.put, List.getElem_toArray, List.getElem_cons_succ, List.getElem_cons_zero, List.setIfInBounds_toArray, List.set_cons_zero, List.set_cons_succ]
  refine anyHeld_one 7 (by kernel_rfl) rfl (by rfl) (fun K hK => ?_)
  rcases hvv with ⟨rfl, rfl⟩ | ⟨rfl, rfl⟩
  · refine oper_append_own (.tmp 23) (.tmp 29) 53 (by rfl) w.heap.size 35 i0 _ 1 4 Try.underlying53 hi0 hz0 hz1 hz2 rfl (by decide) (.slice none 0 0) 0 [] (by rfl) (World.ownsRow_nil _ _ _ _) ⟨g, 0, none⟩ 1 cap [.int .u32 4] (by rfl) rfl (fun j u hj => by rcases j with _ | j <;> simp at hj; subst hj; have := HI.out.2.2.2.2.1.cellAt 0 (by omega); simpa [Addr.add] using this) (by simp [Value.oneCell']) (by unfold maxLen; omega) (by omega) HI.out.1.size ?_
    intro v' w1 hown hgrow hat
    obtain ⟨g', cap', rfl⟩ := ownsRow_succ hown
    have hk3 : Keeps (fun _ => False) W w1 := (Keeps.refl _ W).drew.trans ((Keeps.of_grown hgrow).mono (fun k _ h => by simp [Value.ownBlock] at h))
    have hg : g' = W.heap.size := by simpa [Value.ownBlock] using hat
    simp only [Nat.zero_add, List.nil_append] at hown ⊢
    have HG := Lib.hid hg
    have HO := Lib.hid hown
    have HK3 := Lib.hid hk3
    have fB := (HI.out.2.2.2.1.keeps hk3 (fun h => h)).frozen 0
    refine hK _ _ (HSN.out _ (hk3.mono (fun _ _ h => h.elim))) ?_
    clear hK hg hat hgrow hown hk3 cB
    try simp only [Act.put, List.getElem_toArray, List.getElem_cons_succ, List.getElem_cons_zero, List.setIfInBounds_toArray, List.set_cons_zero, List.set_cons_succ]
    have hS5 := HSN.out (w1.setCell ⟨B, 0, none⟩ (.slice (some ⟨g', 0, none⟩) 1 cap')) (Keeps.setCell (S := fun k => k = B) (HK3.out.mono (fun _ _ h => h.elim)) (p := ⟨B, 0, none⟩) (fun _ => rfl) _)
    have cB := (HI.out.2.2.2.1.keeps HK3.out (fun h => h)).cell 0
    simp only [List.getElem?_cons_zero] at cB
    refine anyHeld_one 8 (by kernel_rfl) rfl (by rfl) (fun K hK => ?_)
    go_simp
    refine hK _ _ hS5 ?_
    clear hK
    refine anyHeld_done (by kernel_rfl) ?_ _
    gi_wp2
    obtain ⟨hB, hS, hin, hBl, hO1, hBw, hBX⟩ := HI.out
    have hk3 := HK3.out
    have hown := HO.out
    have hg := HG.out
    have hk5 : Keeps (fun k => k = B) W (w1.setCell ⟨B, 0, none⟩ (.slice (some ⟨g', 0, none⟩) 1 cap')) := Keeps.setCell (S := fun k => k = B) (hk3.mono (fun _ _ h => h.elim)) (p := ⟨B, 0, none⟩) (fun _ => rfl) _
    have hlB := hBl.lt
    have hb5 := (hBl.keeps hk3 (fun h => h)).set_ 0 (.slice (some ⟨g', 0, none⟩) 1 cap')
    have hz3 := (hown.lt g' (by simp [Value.ownBlock])).2
    have hz5 := hk5.size
    refine ⟨fun k => k = B ∨ k = g', ⟨hk5.mono (fun k _ e => (hS k).2 (.inl e)), fun k hk => ?_⟩, fun k hk => ?_, below_keeps hB hk5 hBw (fun k e => by omega), .inr ⟨by simp, some ⟨g', 0, none⟩, cap', hb5, owns_keeps hown ((Keeps.refl (fun k => k = B) w1).setCell (p := ⟨B, 0, none⟩) (fun _ => rfl) _) (fun b hb e => by simp [Value.ownBlock] at hb; omega), fun k => by simp [Value.ownBlock, eq_comm]⟩⟩
    · rcases hk with h | h
      · exact .inl ((hS k).2 (.inl h))
      · exact .inr (by omega)
    · rcases hk with h | h
      · omega
      · rw [h]; simpa [World.setCell] using hz3
  · have hr := run_append_owned_none (P := Try.prog) (w := W.drew) w.heap.size 53 53 35 i0 1 Try.underlying53 hi0 (.slice none 0 0) 0 [] (World.ownsRow_nil _ _ _ _)
    unfold Oper.wpIn
    refine ⟨by simp [Oper.about, resolve, Target.leads, Sem.run_pure], ?_⟩
    rw [Oper.semAt_plain _ _ _ (by intro c hc'; cases hc')]
    simp [execOp, resolve, invoke, builtin, Act.eval, hr, Result.andThen]
    refine hK _ _ hS0 ?_
    clear hK hr
    have fB := HI.out.2.2.2.1.drew.frozen 0
    try simp only [Act.put, List.getElem_toArray, List.getElem_cons_succ, List.getElem_cons_zero, List.setIfInBounds_toArray, List.set_cons_zero, List.set_cons_succ]
    have hS5 := HSN.out (W.drew.setCell ⟨B, 0, none⟩ (.slice none 0 0)) (Keeps.setCell (S := fun k => k = B) (Keeps.refl _ W).drew (p := ⟨B, 0, none⟩) (fun _ => rfl) _)
    refine anyHeld_one 8 (by kernel_rfl) rfl (by rfl) (fun K hK => ?_)
    go_simp
    refine hK _ _ hS5 ?_
    clear hK
    refine anyHeld_done (by kernel_rfl) ?_ _
    gi_wp2
    obtain ⟨hB, hS, hin, hBl, hO1, hBw, hBX⟩ := HI.out
    have hk5 : Keeps (fun k => k = B) W (W.drew.setCell ⟨B, 0, none⟩ (.slice none 0 0)) := Keeps.setCell (S := fun k => k = B) (Keeps.refl _ W).drew (p := ⟨B, 0, none⟩) (fun _ => rfl) _
    have hlB := hBl.lt
    have hb5 := hBl.drew.set_ 0 (.slice none 0 0)
    have hz5 := hk5.size
    refine ⟨fun k => k = B, ⟨hk5.mono (fun k _ e => (hS k).2 (.inl e)), fun k hk => .inl ((hS k).2 (.inl hk))⟩, fun k hk => by have hk' : k = B := hk; rw [hk']; simpa [World.setCell] using hlB, below_keeps hB hk5 hBw (fun k e => by omega), .inr ⟨by simp, none, 0, hb5, World.ownsRow_nil _ _ _ _, fun k => by simp [Value.ownBlock]⟩⟩
end Gr
end Go.Proofs.Ytppiohmnbffndaa
