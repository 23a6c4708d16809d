/-
GrK: works.
GsX: has, over a rising list.
-/
import Derived.Test.YtppiohmnbffndaaZbaGrJTreeCTreeDGsUGsV
import Derived.Test.YtppiohmnbffndaaZbbGsW
namespace Go.Proofs.Ytppiohmnbffndaa
open Go.RowKit Go.Shelf
set_option linter.unusedVariables false
set_option linter.unusedSimpArgs false
attribute [local go_sem] Oper.semAt_some
namespace Gr
open Mem Tree
theorem frames53 {P : Act → Prop} (hP : ∀ u0 u1 u2 u3 u4 u5 u6 u7 u8 u9 u10 u11 u12 u13 u14 u15 u16 u17 u18 u19 u20 u21 u22 u23 u24 u25 u26 u27 u28 u29 u30 u31 u32 u33 u34 u35 u36 u37 u38 u39 u40 u41 u42 u43 u44 u45 u46 u47 u48 u49 u50 u51 u52 : Value, P ⟨#[u0, u1, u2, u3, u4, u5, u6, u7, u8, u9, u10, u11, u12, u13, u14, u15, u16, u17, u18, u19, u20, u21, u22, u23, u24, u25, u26, u27, u28, u29, u30, u31, u32, u33, u34, u35, u36, u37, u38, u39, u40, u41, u42, u43, u44, u45, u46, u47, u48, u49, u50, u51, u52], []⟩) : ∀ a : Act, a.tmps.size = 53 → a.defers = [] → P a := by
  rintro ⟨⟨t⟩, d⟩ h1 h2
  simp only [List.size_toArray] at h1 h2
  subst h2
  have h := unroll t 53 h1
  have e : (List.range 53).map (fun i => t.getD i undef) = [t.getD 0 undef, t.getD 1 undef, t.getD 2 undef, t.getD 3 undef, t.getD 4 undef, t.getD 5 undef, t.getD 6 undef, t.getD 7 undef, t.getD 8 undef, t.getD 9 undef, t.getD 10 undef, t.getD 11 undef, t.getD 12 undef, t.getD 13 undef, t.getD 14 undef, t.getD 15 undef, t.getD 16 undef, t.getD 17 undef, t.getD 18 undef, t.getD 19 undef, t.getD 20 undef, t.getD 21 undef, t.getD 22 undef, t.getD 23 undef, t.getD 24 undef, t.getD 25 undef, t.getD 26 undef, t.getD 27 undef, t.getD 28 undef, t.getD 29 undef, t.getD 30 undef, t.getD 31 undef, t.getD 32 undef, t.getD 33 undef, t.getD 34 undef, t.getD 35 undef, t.getD 36 undef, t.getD 37 undef, t.getD 38 undef, t.getD 39 undef, t.getD 40 undef, t.getD 41 undef, t.getD 42 undef, t.getD 43 undef, t.getD 44 undef, t.getD 45 undef, t.getD 46 undef, t.getD 47 undef, t.getD 48 undef, t.getD 49 undef, t.getD 50 undef, t.getD 51 undef, t.getD 52 undef] := rfl
  exact Eq.mpr (congrArg (fun l : List Value => P ⟨⟨l⟩, []⟩) (h.trans e)) (hP (t.getD 0 undef) (t.getD 1 undef) (t.getD 2 undef) (t.getD 3 undef) (t.getD 4 undef) (t.getD 5 undef) (t.getD 6 undef) (t.getD 7 undef) (t.getD 8 undef) (t.getD 9 undef) (t.getD 10 undef) (t.getD 11 undef) (t.getD 12 undef) (t.getD 13 undef) (t.getD 14 undef) (t.getD 15 undef) (t.getD 16 undef) (t.getD 17 undef) (t.getD 18 undef) (t.getD 19 undef) (t.getD 20 undef) (t.getD 21 undef) (t.getD 22 undef) (t.getD 23 undef) (t.getD 24 undef) (t.getD 25 undef) (t.getD 26 undef) (t.getD 27 undef) (t.getD 28 undef) (t.getD 29 undef) (t.getD 30 undef) (t.getD 31 undef) (t.getD 32 undef) (t.getD 33 undef) (t.getD 34 undef) (t.getD 35 undef) (t.getD 36 undef) (t.getD 37 undef) (t.getD 38 undef) (t.getD 39 undef) (t.getD 40 undef) (t.getD 41 undef) (t.getD 42 undef) (t.getD 43 undef) (t.getD 44 undef) (t.getD 45 undef) (t.getD 46 undef) (t.getD 47 undef) (t.getD 48 undef) (t.getD 49 undef) (t.getD 50 undef) (t.getD 51 undef) (t.getD 52 undef))
theorem eq_seq (lb : Array Value) (W : World) : (binOp .eql 42 (.func (.func 51) #[] lb) .nilFunc).run Try.prog W = .ok (.bool false) W := by kernel_rfl
def WkI (W0 : World) (T : Nat) (pre : List Nat) (S : Nat → Prop) (W : World) : Prop := Keeps (fun k => k = T) W0 W ∧ Blk W T 3 [.int .i64 (4 * (pre.length : Int))] ∧ ∀ k, S k ↔ k = T
theorem wki_stab (W0 : World) (T b : Nat) (hb : W0.heap.size ≤ b) : Stab b (WkI W0 T) := by
  intro pre S X W W' ⟨h1, h2, h3⟩ hin hk hd ht
  exact ⟨h1.then hk (fun i hi hT => absurd (ht i hT) (by omega)), h2.keeps hk (hd _ ((h3 _).2 rfl)), h3⟩
def WkM (W0 : World) (T : Nat) (s : List Nat × Nat × Act) (S : Nat → Prop) (W : World) : Prop := Fr s.2.2 53 [(3, .pointer (some ⟨T, 0, none⟩)), (6, .int .u32 (s.2.1 : Int))] ∧ WkI W0 T s.1 S W
theorem wkm_stab (W0 : World) (T b : Nat) (hb : W0.heap.size ≤ b) : Stab b (WkM W0 T) := by
  intro s S X W W' ⟨h0, h⟩ hin hk hd ht
  exact ⟨h0, wki_stab W0 T b hb s.1 S X W W' h hin hk hd ht⟩
noncomputable def wkBody : Code := (rbods (Try.f8.body.getD .skip)).getD 0 .skip
set_option maxHeartbeats 4000000 in
set_option maxRecDepth 100000 in
theorem wk_body (l : Nat) (W0 : World) (T : Nat) (S : Nat → Prop) (W : World) (a : Act) (hM : WkM W0 T ([], 4, a) S W) (hin : Inb S W) : wkBody.wpIn (Fence.wide.inRound l) 7 Try.prog (Mem.Left (WkI W0 T) (fun _ _ _ _ => False) ([] ++ [4]) S W) a W := by
  obtain ⟨hF, h1, h2, h3⟩ := hM
  simp only at hF h2
  revert hF
  refine fun hF => frames53 (P := fun a => Fr a 53 [(3, .pointer (some ⟨T, 0, none⟩)), (6, .int .u32 ((4 : Nat) : Int))] → wkBody.wpIn (Fence.wide.inRound l) 7 Try.prog (Mem.Left (WkI W0 T) (fun _ _ _ _ => False) ([] ++ [4]) S W) a W) ?_ a hF.1 hF.2.1 hF
  intro u0 u1 u2 u3 u4 u5 u6 u7 u8 u9 u10 u11 u12 u13 u14 u15 u16 u17 u18 u19 u20 u21 u22 u23 u24 u25 u26 u27 u28 u29 u30 u31 u32 u33 u34 u35 u36 u37 u38 u39 u40 u41 u42 u43 u44 u45 u46 u47 u48 u49 u50 u51 u52 hF
  obtain rfl : u3 = .pointer (some ⟨T, 0, none⟩) := hF.at_ 3 _ (by simp)
  obtain rfl : u6 = .int .u32 ((4 : Nat) : Int) := hF.at_ 6 _ (by simp)
  clear hF
  have cT := h2.cell 0
  have fT := h2.frozen 0
  simp only [List.getElem?_cons_zero, List.length_nil] at cT
  have HX := Lib.hid (And.intro h1 (And.intro h2 (And.intro h3 hin)))
  clear h1 h2 h3 hin
  conv => arg 4; whnf
  gi_wp2
  obtain ⟨h1, h2, h3, hin⟩ := HX.out
  have hk5 : Keeps (fun k => k = T) W (W.setCell ⟨T, 0, none⟩ (.int .i64 4)) := Keeps.setCell (S := fun k => k = T) (Keeps.refl _ W) (p := ⟨T, 0, none⟩) (fun _ => rfl) _
  have hb5 := h2.set_ 0 (.int .i64 4)
  exact ⟨fun k => k = T, ⟨hk5.mono (fun k _ e => (h3 k).2 e), fun k hk => .inl ((h3 k).2 hk)⟩, fun k hk => by have hk' : k = T := hk; rw [hk']; exact hb5.lt, h1.trans hk5, hb5, fun _ => Iff.rfl⟩
theorem Vals.u32s {b : Nat} {w : World} {VB : Nat} {V : List Nat} (h : Vals b w VB V) : ∃ v, w.cell? ⟨VB, 0, none⟩ = some v ∧ U32s w v V ∧ ∀ k, rowOf v k → b ≤ k ∧ k < w.heap.size := by
  obtain ⟨h1, a, cp, h2, h3⟩ := h
  refine ⟨.slice a V.length cp, by have := h2.cell 0; simpa using this, ⟨a, cp, rfl, fun i x hx => ?_⟩, ?_⟩
  · rcases h3.2 with ⟨h4, h5⟩ | ⟨g, cap, cur, h4, _⟩
    · have : V = [] := List.length_eq_zero_iff.1 h5
      subst this
      simp at hx
    · obtain ⟨rfl, _⟩ : a = some ⟨g, 0, none⟩ ∧ cp = cap := by simpa using h4
      refine ⟨g, 0, rfl, ?_⟩
      have := h3.cells (g := g) (by simp [Value.ownBlock]) i (.int .u32 (x : Int)) (by simp [u32v, hx])
      rw [Addr.add_mid] at this
      exact this
  · rintro k ⟨a', n, c, e, rfl⟩
    obtain ⟨rfl, rfl, rfl⟩ : a = some a' ∧ V.length = n ∧ cp = c := by simpa using e
    exact h3.lt _ (by simp [Value.ownBlock])
set_option maxHeartbeats 4000000 in
set_option maxRecDepth 100000 in
theorem works_yes (w : World) : Calls Try.prog 8 #[] w fun e w' => e = .returned (.bool true) ∧ Keeps (fun _ => False) w w' := by
  have heq := eq_seq
  refine (callsIn_wide (n := 9)).1 ?_
  refine callsIn_of_wp_marks Try.func8 rfl trivial ?_ rfl
  simp only [Try.ntmps8, List.size_toArray, List.length_cons, List.length_nil, Nat.reduceAdd, Nat.reduceSub, Array.replicate_succ, Array.replicate_zero, List.push_toArray, List.append_toArray, List.nil_append, List.cons_append]
  gi_wp2_with (first
    | (refine ⟨trivial, ?_⟩; gi_at_call 6; refine (callsIn_wide.2 (new_yes _)).mono ?_; rintro e w1 ⟨G, r1, r2, r3, rfl, hN, hk1, hz1, hz2, hz3, hz4⟩; have HN := Lib.hid hN; have HK1 := Lib.hid hk1; have HZ := Lib.hid (And.intro hz1 (And.intro hz2 (And.intro hz3 hz4))); clear hN hk1 hz1 hz2 hz3 hz4)
    | (refine ⟨trivial, ?_⟩; gi_at_call 10; refine (callsIn_wide.2 (put_yes _ G r1 r2 r3 HN.out)).mono ?_; rintro e w2 ⟨rfl, hP, hk2⟩; have HP := Lib.hid hP; have HK2 := Lib.hid (HK1.out.then (T := fun k => k = r1 ∨ k = r2) hk2 (fun i hi e => by have := HZ.out; omega)); have HT := Lib.hid (Blk.new w2 3 [.int .i64 0]); have HP3 := Lib.hid (hP.kd ((Keeps.refl (fun _ => False) w2).alloc (.cells #[.int .i64 0] 3))); clear hP hk2)
    | (refine ⟨trivial, ?_⟩; gi_at_call 13; with_reducible refine (callsIn_wide.2 (at3 _ G r1 r2 r3 HP3.out)).mono ?_; rintro e w4 ⟨V1, rfl, hk4, hv4⟩; have HK4 := Lib.hid hk4; have HV4 := Lib.hid hv4; have HP4 := Lib.hid (HP3.out.kd hk4); clear hk4 hv4)
    | (refine ⟨trivial, ?_⟩; gi_at_call 13; with_reducible refine (callsIn_wide.2 (at50 _ G r1 r2 r3 HP4.out)).mono ?_; rintro e w5 ⟨V2, rfl, hk5, hv5⟩; have HK5 := Lib.hid hk5; have HV5 := Lib.hid hv5; clear hk5 hv5))
  obtain ⟨v1, hv1, hU1, hR1⟩ := (HV4.out.keeps HK5.out (fun _ h => h.elim)).u32s
  obtain ⟨v2, hv2, hU2, hR2⟩ := HV5.out.u32s
  have hT5 := (HT.out.keeps HK4.out (fun h => h)).keeps HK5.out (fun h => h)
  have hTl := hT5.lt
  have hz3 : (w2.alloc (.cells #[.int .i64 0] 3)).heap.size = w2.heap.size + 1 := by simp
  have hzz := HK4.out.size
  refine wpIn_range (gf := 51) (lb := #[.pointer (some ⟨V1, 0, none⟩)]) (encs := fun x : Nat => #[.int .u32 (x : Int)]) (xs := [4]) (A := fun S => ∀ k, S k → ¬ rowOf v1 k) rfl (enters_of Try.func51 (by kernel_rfl) rfl)
    (fun W1 hk => values1_gives 8 V1 v1 [4] W1 (by decide) (hk.cell hv1 (fun h => h)) (by
      obtain ⟨a, cp, e, h⟩ := hU1
      refine ⟨a, cp, e, fun i x hx => ?_⟩
      obtain ⟨b, off, e2, h2⟩ := h i x hx
      exact ⟨b, off, e2, hk.cell h2 (fun h => h)⟩)) (fun _ => rfl)
    (WkI w5 w2.heap.size) (fun _ _ _ _ => False) (wki_stab _ _ _ (Nat.le_refl _)) (fun _ _ _ _ _ _ h => h.elim)
    (fun k => k = w2.heap.size) (fun k hk => by have hk' : k = w2.heap.size := hk; omega) ⟨Keeps.refl _ _, hT5, fun _ => Iff.rfl⟩ (fun S hS k hk hr => by have := hR1 k hr; have := HK5.out.size; rcases hS k hk with h | h <;> omega)
    (WkM w5 w2.heap.size) (wkm_stab _ _ _ (Nat.le_refl _)) ?assign ?body ?done ?stop
  case assign =>
    intro l pre x rest S W hxs hI hin hlt
    have HX := Lib.hid (And.intro hI hin)
    clear hI hin hv1 hU1 hR1 hv2 hU2 hR2 hT5
    gi_wp2
    exact ⟨S, Foot.refl _ _, HX.out.2, ⟨rfl, rfl, by simp⟩, HX.out.1⟩
  case body =>
    intro l pre x rest a1 S W hxs hM hin hlt
    obtain ⟨rfl, rfl, rfl⟩ : pre = [] ∧ x = 4 ∧ rest = [] := by
      rcases pre with _ | ⟨p, pre⟩
      · simp at hxs; exact ⟨rfl, hxs.1.symm, hxs.2⟩
      · simp at hxs
    exact wk_body l w5 w2.heap.size S W a1 hM hin
  case stop =>
    intro D c0 pre S' W' hD hnD hf hin hpre hx
    exact hx.elim
  case done =>
    rintro D S' W' hD hnD hf hin ⟨k6, hT6, hS6⟩ hDD
    have hT6' : Blk W' w2.heap.size 3 [.int .i64 4] := hT6
    have hkW : Keeps (fun _ => False) w2 W' := ((((Keeps.refl (fun _ => False) w2).alloc (.cells #[.int .i64 0] 3)).trans HK4.out).trans HK5.out).then k6 (fun i hi e => by omega)
    obtain ⟨v2, hv2, hU2, hR2⟩ := (HV5.out.keeps k6 (fun k e => by have e' : k = w2.heap.size := e; omega)).u32s
    have HX := Lib.hid (And.intro hT6' hkW)
    have HD := Lib.hid (And.intro hD (And.intro hnD hDD))
    have HR := Lib.hid (And.intro hv2 (And.intro hU2 hR2))
    clear hT6 k6 hS6 hv1 hU1 hR1 hT5 hTl hz3 hzz hD hnD hDD hf hin hT6' hkW hv2 hU2 hR2
    gi_wp2
    refine wpIn_range (gf := 51) (lb := #[.pointer (some ⟨V2, 0, none⟩)]) (encs := fun x : Nat => #[.int .u32 (x : Int)]) (xs := []) (A := fun S => ∀ k, S k → ¬ rowOf v2 k) rfl (enters_of Try.func51 (by kernel_rfl) rfl)
      (fun W1 hk => values1_gives 8 V2 v2 [] W1 (by decide) (hk.cell HR.out.1 (fun h => h)) (by
        obtain ⟨a, cp, e, h⟩ := HR.out.2.1
        exact ⟨a, cp, e, fun i x hx => by simp at hx⟩)) (fun _ => rfl)
      (fun _ S W => Keeps (fun _ => False) W' W ∧ ∀ k, ¬ S k) (fun _ _ _ _ => False) (fun pre S X W W1 h hin hk hd ht => ⟨h.1.then hk (fun i hi hT => absurd (ht i hT) (by omega)), h.2⟩) (fun _ _ _ _ _ _ h => h.elim)
      (fun k => False) (fun k hk => hk.elim) ⟨Keeps.refl _ _, fun _ h => h⟩ (fun S hS k hk hr => by have := HR.out.2.2 k hr; rcases hS k hk with h | h; exact h.elim; omega)
      (fun _ _ _ => True) (fun _ _ _ _ _ h _ _ _ _ => trivial) ?assign ?body ?done ?stop
    case assign => intro l pre x rest S W hxs; simp at hxs
    case body => intro l pre x rest a1 S W hxs; simp at hxs
    case stop =>
      intro D c pre S' W' hD hnD hf hin hpre h
      exact h.elim
    case done =>
      rintro D2 S2 W2 hD2 hnD2 hf2 hin2 ⟨k7, _⟩ hDD2
      obtain ⟨hD, hnD, hDD⟩ := HD.out
      have hDl : D < W'.heap.size := (Array.getElem?_eq_some_iff.1 hDD).1
      have cT := (HX.out.1.keeps k7 (fun h => h)).cell 0
      simp only [List.getElem?_cons_zero] at cT
      have HDD := Lib.hid (And.intro hD2 (And.intro hDD2 (And.intro hDl ((k7.block D hDl (fun h => h)).trans hDD))))
      have HK7 := Lib.hid (HX.out.2.trans k7)
      have HPW := Lib.hid (HP.out.kd (HX.out.2.trans k7))
      clear hD hnD hDD hDl k7 hD2 hnD2 hDD2 hf2 hin2
      gi_wp2_with (refine ⟨trivial, ?_⟩; gi_at_call 15; with_reducible refine (callsIn_wide.2 (len_one _ G r1 r2 r3 HPW.out)).mono ?_; rintro e w8 ⟨rfl, rfl⟩)
      obtain ⟨hD2, hDD2, hDl, hDD⟩ := HDD.out
      refine ⟨by simp, .inl ⟨_, _, rfl, run_takeDeferred hDD2, ?_⟩⟩
      have kp := keeps_putObj W2 D2 (.deferred none)
      have hne : D ≠ D2 := by omega
      have hDD3 := (kp.block D (Array.getElem?_eq_some_iff.1 hDD).1 hne).trans hDD
      refine ⟨by simp, .inl ⟨_, _, rfl, run_takeDeferred hDD3, ?_⟩⟩
      have kp2 := keeps_putObj (W2.putObj D2 (.deferred none)) D (.deferred none)
      refine ⟨_, results_tmp rfl _ _ _, rfl, ?_⟩
      have hw := HK2.out.trans HK7.out
      have hz := HK2.out.size
      have s4 := HK4.out.size
      have s5 := HK5.out.size
      have sx := HX.out.2.size
      have hD := HD.out.1
      simp only [World.size_alloc] at s4
      exact (hw.then kp (fun i hi e => by have e' : i = D2 := e; omega)).then kp2 (fun i hi e => by have e' : i = D := e; omega)
end Gr
end Go.Proofs.Ytppiohmnbffndaa
namespace Go.Proofs.Ytppiohmnbffndaa
open Go.RowKit Go.Shelf
set_option linter.unusedVariables false
set_option linter.unusedSimpArgs false
set_option linter.ambiguousOpen false
attribute [local go_sem] Oper.semAt_some
namespace Gs
open Mem Tree Gr
theorem frames33 {P : Act → Prop} (hP : ∀ u0 u1 u2 u3 u4 u5 u6 u7 u8 u9 u10 u11 u12 u13 u14 u15 u16 u17 u18 u19 u20 u21 u22 u23 u24 u25 u26 u27 u28 u29 u30 u31 u32 : Value, P ⟨#[u0, u1, u2, u3, u4, u5, u6, u7, u8, u9, u10, u11, u12, u13, u14, u15, u16, u17, u18, u19, u20, u21, u22, u23, u24, u25, u26, u27, u28, u29, u30, u31, u32], []⟩) : ∀ a : Act, a.tmps.size = 33 → a.defers = [] → P a := by
  rintro ⟨⟨t⟩, d⟩ h1 h2
  simp only [List.size_toArray] at h1 h2
  subst h2
  have h := unroll t 33 h1
  have e : (List.range 33).map (fun i => t.getD i undef) = [t.getD 0 undef, t.getD 1 undef, t.getD 2 undef, t.getD 3 undef, t.getD 4 undef, t.getD 5 undef, t.getD 6 undef, t.getD 7 undef, t.getD 8 undef, t.getD 9 undef, t.getD 10 undef, t.getD 11 undef, t.getD 12 undef, t.getD 13 undef, t.getD 14 undef, t.getD 15 undef, t.getD 16 undef, t.getD 17 undef, t.getD 18 undef, t.getD 19 undef, t.getD 20 undef, t.getD 21 undef, t.getD 22 undef, t.getD 23 undef, t.getD 24 undef, t.getD 25 undef, t.getD 26 undef, t.getD 27 undef, t.getD 28 undef, t.getD 29 undef, t.getD 30 undef, t.getD 31 undef, t.getD 32 undef] := rfl
  exact Eq.mpr (congrArg (fun l : List Value => P ⟨⟨l⟩, []⟩) (h.trans e)) (hP (t.getD 0 undef) (t.getD 1 undef) (t.getD 2 undef) (t.getD 3 undef) (t.getD 4 undef) (t.getD 5 undef) (t.getD 6 undef) (t.getD 7 undef) (t.getD 8 undef) (t.getD 9 undef) (t.getD 10 undef) (t.getD 11 undef) (t.getD 12 undef) (t.getD 13 undef) (t.getD 14 undef) (t.getD 15 undef) (t.getD 16 undef) (t.getD 17 undef) (t.getD 18 undef) (t.getD 19 undef) (t.getD 20 undef) (t.getD 21 undef) (t.getD 22 undef) (t.getD 23 undef) (t.getD 24 undef) (t.getD 25 undef) (t.getD 26 undef) (t.getD 27 undef) (t.getD 28 undef) (t.getD 29 undef) (t.getD 30 undef) (t.getD 31 undef) (t.getD 32 undef))
def lastN (l : List Nat) : Nat := l.getLast?.getD 0
theorem lastN_app (l : List Nat) (x : Nat) : lastN (l ++ [x]) = x := by simp [lastN]
def HsI (W0 : World) (n0 id : Nat) (pre : List Nat) (S : Nat → Prop) (W : World) : Prop :=
  Keeps (fun k => n0 < k ∧ k ≤ n0 + 4) W0 W ∧ Blk W n0 35 [.int .u32 (id : Int)] ∧ Blk W (n0 + 1) 4 [.bool (decide (id ∈ pre))] ∧ Blk W (n0 + 2) 4 [.bool true] ∧ Blk W (n0 + 3) 4 [.bool (decide (pre = []))] ∧ Blk W (n0 + 4) 35 [.int .u32 (lastN pre : Int)] ∧ ∀ k, S k ↔ n0 < k ∧ k ≤ n0 + 4
theorem hsi_stab (W0 : World) (n0 id b : Nat) (hb : W0.heap.size ≤ b) (h5 : n0 + 5 ≤ b) : Stab b (HsI W0 n0 id) := by
  intro pre S X W W' ⟨h1, h2, h3, h4, h5', h6, h7⟩ hin hk hd ht
  exact ⟨h1.then hk (fun i hi hT => absurd (ht i hT) (by omega)), h2.keeps hk (fun e => by have := ht _ e; omega), h3.keeps hk (fun e => by have := ht _ e; omega), h4.keeps hk (fun e => by have := ht _ e; omega), h5'.keeps hk (fun e => by have := ht _ e; omega), h6.keeps hk (fun e => by have := ht _ e; omega), h7⟩
def HsM (W0 : World) (n0 id : Nat) (s : List Nat × Nat × Act) (S : Nat → Prop) (W : World) : Prop := Fr s.2.2 33 [(3, .pointer (some ⟨n0, 0, none⟩)), (6, .pointer (some ⟨n0 + 1, 0, none⟩)), (7, .pointer (some ⟨n0 + 2, 0, none⟩)), (8, .pointer (some ⟨n0 + 3, 0, none⟩)), (9, .pointer (some ⟨n0 + 4, 0, none⟩)), (10, .int .u32 (s.2.1 : Int))] ∧ HsI W0 n0 id s.1 S W
theorem hsm_stab (W0 : World) (n0 id b : Nat) (hb : W0.heap.size ≤ b) (h5 : n0 + 5 ≤ b) : Stab b (HsM W0 n0 id) := by
  intro s S X W W' ⟨h0, h⟩ hin hk hd ht
  exact ⟨h0, hsi_stab W0 n0 id b hb h5 s.1 S X W W' h hin hk hd ht⟩
noncomputable def hsBody : Code := (rbods (Try.f12.body.getD .skip)).getD 0 .skip
set_option maxHeartbeats 4000000 in
set_option maxRecDepth 100000 in
theorem hs_body (l : Nat) (W0 : World) (n0 id : Nat) (pre : List Nat) (x : Nat) (hx : pre ≠ [] → lastN pre < x) (S : Nat → Prop) (W : World) (a : Act) (hM : HsM W0 n0 id (pre, x, a) S W) (hin : Inb S W) : hsBody.wpIn (Fence.wide.inRound l) 7 Try.prog (Mem.Left (HsI W0 n0 id) (fun _ _ _ _ => False) (pre ++ [x]) S W) a W := by
  obtain ⟨hF, h1, h2, h3, h4, h5, h6, h7⟩ := hM
  simp only at hF h2 h3 h4 h5 h6
  obtain ⟨q, hq⟩ : ∃ q, q = lastN pre := ⟨_, rfl⟩
  rw [← hq] at h6 hx
  revert hF
  refine fun hF => frames33 (P := fun a => Fr a 33 [(3, .pointer (some ⟨n0, 0, none⟩)), (6, .pointer (some ⟨n0 + 1, 0, none⟩)), (7, .pointer (some ⟨n0 + 2, 0, none⟩)), (8, .pointer (some ⟨n0 + 3, 0, none⟩)), (9, .pointer (some ⟨n0 + 4, 0, none⟩)), (10, .int .u32 (x : Int))] → hsBody.wpIn (Fence.wide.inRound l) 7 Try.prog (Mem.Left (HsI W0 n0 id) (fun _ _ _ _ => False) (pre ++ [x]) S W) a W) ?_ a hF.1 hF.2.1 hF
  intro u0 u1 u2 u3 u4 u5 u6 u7 u8 u9 u10 u11 u12 u13 u14 u15 u16 u17 u18 u19 u20 u21 u22 u23 u24 u25 u26 u27 u28 u29 u30 u31 u32 hF
  obtain rfl : u3 = .pointer (some ⟨n0, 0, none⟩) := hF.at_ 3 _ (by simp)
  obtain rfl : u6 = .pointer (some ⟨n0 + 1, 0, none⟩) := hF.at_ 6 _ (by simp)
  obtain rfl : u7 = .pointer (some ⟨n0 + 2, 0, none⟩) := hF.at_ 7 _ (by simp)
  obtain rfl : u8 = .pointer (some ⟨n0 + 3, 0, none⟩) := hF.at_ 8 _ (by simp)
  obtain rfl : u9 = .pointer (some ⟨n0 + 4, 0, none⟩) := hF.at_ 9 _ (by simp)
  obtain rfl : u10 = .int .u32 (x : Int) := hF.at_ 10 _ (by simp)
  clear hF
  have c2 := h2.cell 0
  have c3 := h3.cell 0
  have f3 := h3.frozen 0
  have c4 := h4.cell 0
  have f4 := h4.frozen 0
  have c5 := h5.cell 0
  have f5 := h5.frozen 0
  have c6 := h6.cell 0
  have f6 := h6.frozen 0
  simp only [List.getElem?_cons_zero] at c2 c3 c4 c5 c6
  have HX := Lib.hid (And.intro h1 (And.intro h2 (And.intro h3 (And.intro h4 (And.intro h5 (And.intro h6 (And.intro h7 hin)))))))
  have fin : ∀ (b1 : Bool) (a' : Act), b1 = decide (id ∈ pre ++ [x]) → Mem.Left (HsI W0 n0 id) (fun _ _ _ _ => False) (pre ++ [x]) S W .normal a' ((((W.setCell ⟨n0 + 2, 0, none⟩ (.bool true)).setCell ⟨n0 + 1, 0, none⟩ (.bool b1)).setCell ⟨n0 + 3, 0, none⟩ (.bool false)).setCell ⟨n0 + 4, 0, none⟩ (.int .u32 (x : Int))) := by
    intro b1 a' hb1
    have k1 := Keeps.setCell (S := fun k => n0 < k ∧ k ≤ n0 + 4) (Keeps.refl _ W) (p := ⟨n0 + 2, 0, none⟩) (fun _ => by simp) (.bool true)
    have k2 := Keeps.setCell (S := fun k => n0 < k ∧ k ≤ n0 + 4) k1 (p := ⟨n0 + 1, 0, none⟩) (fun _ => by simp) (.bool b1)
    have k3 := Keeps.setCell (S := fun k => n0 < k ∧ k ≤ n0 + 4) k2 (p := ⟨n0 + 3, 0, none⟩) (fun _ => by simp) (.bool false)
    have k4 := Keeps.setCell (S := fun k => n0 < k ∧ k ≤ n0 + 4) k3 (p := ⟨n0 + 4, 0, none⟩) (fun _ => by simp) (.int .u32 (x : Int))
    refine ⟨fun k => n0 < k ∧ k ≤ n0 + 4, ⟨k4.mono (fun k _ e => (h7 k).2 e), fun k hk => .inl ((h7 k).2 hk)⟩, fun k hk => ?_, h1.trans k4, ?_, ?_, ?_, ?_, ?_, fun _ => Iff.rfl⟩
    · exact Nat.lt_of_lt_of_le (hin k ((h7 k).2 hk)) k4.size
    · exact h2.keeps k4 (fun e => by omega)
    · have hb1' := hb1
      have e1 := (((h3.far (p := ⟨n0 + 2, 0, none⟩) (by simp) (.bool true)).set_ 0 (.bool b1)).far (p := ⟨n0 + 3, 0, none⟩) (by simp) (.bool false)).far (p := ⟨n0 + 4, 0, none⟩) (by simp) (.int .u32 (x : Int))
      rw [← hb1]; exact e1
    · exact (((h4.set_ 0 (.bool true)).far (p := ⟨n0 + 1, 0, none⟩) (by simp) (.bool b1)).far (p := ⟨n0 + 3, 0, none⟩) (by simp) (.bool false)).far (p := ⟨n0 + 4, 0, none⟩) (by simp) (.int .u32 (x : Int))
    · have e1 := (((h5.far (p := ⟨n0 + 2, 0, none⟩) (by simp) (.bool true)).far (p := ⟨n0 + 1, 0, none⟩) (by simp) (.bool b1)).set_ 0 (.bool false)).far (p := ⟨n0 + 4, 0, none⟩) (by simp) (.int .u32 (x : Int))
      simpa using e1
    · have e1 := (((h6.far (p := ⟨n0 + 2, 0, none⟩) (by simp) (.bool true)).far (p := ⟨n0 + 1, 0, none⟩) (by simp) (.bool b1)).far (p := ⟨n0 + 3, 0, none⟩) (by simp) (.bool false)).set_ 0 (.int .u32 (x : Int))
      rw [lastN_app]; exact e1
  have HF := Lib.hid fin
  clear h1 h2 h3 h4 h5 h6 h7 hin fin hF
  conv => arg 4; whnf
  rcases Classical.em (pre = []) with hp | hp
  · subst hp
    simp only [decide_true, List.not_mem_nil, decide_false] at c3 c5
    clear hx hq
    gi_wp2
    refine HF.out _ _ ?_
    simp only [List.nil_append, List.mem_singleton]
    rw [Bool.eq_iff_iff]; simp only [beq_iff_eq, decide_eq_true_eq]; omega
  · have hlt := hx hp
    have hlt' : q < x := hlt
    clear hx hlt
    simp only [hp, decide_false] at c5
    rcases Classical.em (id ∈ pre) with hm | hm
    · simp only [hm, decide_true] at c3
      clear hq
      gi_wp2
      refine HF.out _ _ ?_
      simp [hm]
    · simp only [hm, decide_false] at c3
      clear hq
      gi_wp2
      refine HF.out _ _ ?_
      rw [Bool.eq_iff_iff]; simp only [beq_iff_eq, decide_eq_true_eq, List.mem_append, List.mem_singleton, hm, false_or]; omega
theorem blkAt (w : World) (n : Nat) (t : TypeId) (cs : List Value) (h : w.heap.size = n) : Blk (w.alloc (.cells cs.toArray t)) n t cs := by
  subst h; exact Blk.new w t cs
theorem rise_last {V pre rest : List Nat} {x : Nat} (h : V.Pairwise (· < ·)) (he : V = pre ++ x :: rest) (hp : pre ≠ []) : lastN pre < x := by
  subst he
  have h1 := (List.pairwise_append.1 h).2.2
  refine h1 (lastN pre) ?_ x (by simp)
  unfold lastN
  rw [List.getLast?_eq_some_getLast hp]
  exact List.getLast_mem hp
set_option maxHeartbeats 4000000 in
set_option maxRecDepth 100000 in
/-- is a number told by a rising list -/
theorem has_gives (w : World) (b VB : Nat) (V : List Nat) (hv : Vals b w VB V) (hs : V.Pairwise (· < ·)) (hl : V.length ≤ 9223372036854775807) (id : Nat) :
    Calls Try.prog 12 #[.func (.func 51) #[] #[.pointer (some ⟨VB, 0, none⟩)], .int .u32 (id : Int)] w fun e w' => e = .returned (.tuple #[.bool (decide (id ∈ V)), .bool true]) ∧ Keeps (fun _ => False) w w' := by
  have heq := eq_seq
  obtain ⟨v, hvc, hU, hR⟩ := hv.u32s
  have HR := Lib.hid (And.intro hvc (And.intro hU hR))
  clear hvc hU hR hv
  refine (callsIn_wide (n := 9)).1 ?_
  refine callsIn_of_wp_marks Try.func12 rfl trivial ?_ rfl
  simp only [Try.ntmps12, List.size_toArray, List.length_cons, List.length_nil, Nat.reduceAdd, Nat.reduceSub, Array.replicate_succ, Array.replicate_zero, List.push_toArray, List.append_toArray, List.nil_append, List.cons_append]
  gi_wp2
  obtain ⟨W0, hW0⟩ : ∃ W0, W0 = (((((w.alloc (.cells #[.int .u32 (id : Int)] 35)).alloc (.cells #[.bool false] 4)).alloc (.cells #[.bool true] 4)).alloc (.cells #[.bool true] 4)).alloc (.cells #[.int .u32 0] 35)) := ⟨_, rfl⟩
  rw [← hW0]
  have hz : W0.heap.size = w.heap.size + 5 := by rw [hW0]; simp
  have hk0 : Keeps (fun _ => False) w W0 := by rw [hW0]; exact (((((Keeps.refl _ w).alloc _).alloc _).alloc _).alloc _).alloc _
  have b0 : Blk W0 w.heap.size 35 [.int .u32 (id : Int)] := by rw [hW0]; exact ((((Blk.new w _ [_]).alloc _).alloc _).alloc _).alloc _
  have b1 : Blk W0 (w.heap.size + 1) 4 [.bool false] := by rw [hW0]; exact Blk.alloc (Blk.alloc (Blk.alloc (blkAt (w.alloc _) _ _ [_] (by simp)) _) _) _
  have b2 : Blk W0 (w.heap.size + 2) 4 [.bool true] := by rw [hW0]; exact Blk.alloc (Blk.alloc (blkAt ((w.alloc _).alloc _) _ _ [_] (by simp)) _) _
  have b3 : Blk W0 (w.heap.size + 3) 4 [.bool true] := by rw [hW0]; exact Blk.alloc (blkAt (((w.alloc _).alloc _).alloc _) _ _ [_] (by simp)) _
  have b4 : Blk W0 (w.heap.size + 4) 35 [.int .u32 0] := by rw [hW0]; exact blkAt ((((w.alloc _).alloc _).alloc _).alloc _) _ _ [_] (by simp)
  clear hW0
  obtain ⟨hvc, hU, hR⟩ := HR.out
  refine wpIn_range (gf := 51) (lb := #[.pointer (some ⟨VB, 0, none⟩)]) (encs := fun x : Nat => #[.int .u32 (x : Int)]) (xs := V) (A := fun S => ∀ k, S k → ¬ rowOf v k) rfl (enters_of Try.func51 (by kernel_rfl) rfl)
    (fun W1 hk => values1_gives 8 VB v V W1 hl ((hk0.trans hk).cell hvc (fun h => h)) (by
      obtain ⟨a, cp, e, h⟩ := hU
      refine ⟨a, cp, e, fun i x hx => ?_⟩
      obtain ⟨b, off, e2, h2⟩ := h i x hx
      exact ⟨b, off, e2, (hk0.trans hk).cell h2 (fun h => h)⟩)) (fun _ => rfl)
    (HsI W0 w.heap.size id) (fun _ _ _ _ => False) (hsi_stab _ _ _ _ (Nat.le_refl _) (by omega)) (fun _ _ _ _ _ _ h => h.elim)
    (fun k => w.heap.size < k ∧ k ≤ w.heap.size + 4) (fun k hk => by omega) ⟨Keeps.refl _ _, b0, by simpa using b1, b2, by simpa using b3, b4, fun _ => Iff.rfl⟩ (fun S hS k hk hr => by have := (hR k hr).2; rcases hS k hk with h | h <;> omega)
    (HsM W0 w.heap.size id) (hsm_stab _ _ _ _ (Nat.le_refl _) (by omega)) ?assign ?body ?done ?stop
  case assign =>
    intro l pre x rest S W hxs hI hin hlt
    have HX := Lib.hid (And.intro hI hin)
    clear hI hin hvc hU hR b0 b1 b2 b3 b4 hk0
    gi_wp2
    exact ⟨S, Foot.refl _ _, HX.out.2, ⟨rfl, rfl, by simp⟩, HX.out.1⟩
  case body =>
    intro l pre x rest a1 S W hxs hM hin hlt
    exact hs_body l W0 _ id pre x (fun hp => rise_last hs hxs hp) S W a1 hM hin
  case stop =>
    intro D c0 pre S' W' hD hnD hf hin hpre hx
    exact hx.elim
  case done =>
    rintro D S' W' hD hnD hf hin ⟨k6, h1, h2, h3, h4, h5, h6⟩ hDD
    have hkW : Keeps (fun _ => False) w W' := hk0.then k6 (fun i hi e => by omega)
    have c2 := h2.cell 0
    have c3 := h3.cell 0
    simp only [List.getElem?_cons_zero] at c2 c3
    have HX := Lib.hid (And.intro hkW (And.intro hD hDD))
    clear hvc hU hR b0 b1 b2 b3 b4 hk0 k6 h1 h2 h3 h4 h5 h6 hkW hD hDD hin hf hnD
    gi_wp2
    rename_i Kx hKx
    refine wpIn_mono (Q := Exit.then (fun a' W1 => (∃ t, a' = { tmps := t, defers := [{ target := .collected D, args := #[] }] } ∧ t.getD 4 undef = .bool (decide (id ∈ V)) ∧ t.getD 5 undef = .bool true) ∧ W1 = W'.drew) (fun _ _ _ => False)) ?region ?rest
    case region =>
      clear hKx
      refine wpIn_wide.2 ?_
      go_region_held3 (fun W => W.cell? ⟨w.heap.size + 1, 0, none⟩ = some (.bool (decide (id ∈ V))) ∧ W.cell? ⟨w.heap.size + 2, 0, none⟩ = some (.bool true)) (first | with_reducible assumption | exact ⟨c2, c3⟩) (first | fail)
      all_goals exact ⟨⟨_, rfl, rfl, rfl⟩, rfl⟩
    case rest =>
      intro e a W2 hpost
      cases e with
      | normal =>
        obtain ⟨⟨t, rfl, h4, h5⟩, rfl⟩ := hpost
        refine hKx _ _ ?_
        clear hKx
        gi_wp2
        obtain ⟨hkW, hD, hDD⟩ := HX.out
        refine ⟨by simp, .inl ⟨_, _, rfl, run_takeDeferred (w := W'.drew) hDD, ?_⟩⟩
        have kp := keeps_putObj W'.drew D (.deferred none)
        refine ⟨_, results_tmp2 rfl _ _ _, by rw [h4, h5], ?_⟩
        exact hkW.drew.then kp (fun i hi e => by have e' : i = D := e; omega)
      | _ => exact hpost.elim
end Gs
end Go.Proofs.Ytppiohmnbffndaa
