/-
GrK: works.
GrL: no grid, and a zero one.
-/
import Derived.Test.YtdbpfbokfmpgcaaZbaGrJTreeCTreeDGsUGsV
namespace Go.Proofs.Ytdbpfbokfmpgcaa
open Go.RowKit Go.Shelf
set_option linter.unusedVariables false
set_option linter.unusedSimpArgs false
attribute [local go_sem] Oper.semAt_some
namespace Gr
open Mem Tree
theorem frames53 {P : Act → Prop} (hP : ∀ u0 u1 u2 u3 u4 u5 u6 u7 u8 u9 u10 u11 u12 u13 u14 u15 u16 u17 u18 u19 u20 u21 u22 u23 u24 u25 u26 u27 u28 u29 u30 u31 u32 u33 u34 u35 u36 u37 u38 u39 u40 u41 u42 u43 u44 u45 u46 u47 u48 u49 u50 u51 u52 : Value, P ⟨#[u0, u1, u2, u3, u4, u5, u6, u7, u8, u9, u10, u11, u12, u13, u14, u15, u16, u17, u18, u19, u20, u21, u22, u23, u24, u25, u26, u27, u28, u29, u30, u31, u32, u33, u34, u35, u36, u37, u38, u39, u40, u41, u42, u43, u44, u45, u46, u47, u48, u49, u50, u51, u52], []⟩) : ∀ a : Act, a.tmps.size = 53 → a.defers = [] → P a := by
  rintro ⟨⟨t⟩, d⟩ h1 h2
  simp only [List.size_toArray] at h1 h2
  subst h2
  have h := unroll t 53 h1
  have e : (List.range 53).map (fun i => t.getD i undef) = [t.getD 0 undef, t.getD 1 undef, t.getD 2 undef, t.getD 3 undef, t.getD 4 undef, t.getD 5 undef, t.getD 6 undef, t.getD 7 undef, t.getD 8 undef, t.getD 9 undef, t.getD 10 undef, t.getD 11 undef, t.getD 12 undef, t.getD 13 undef, t.getD 14 undef, t.getD 15 undef, t.getD 16 undef, t.getD 17 undef, t.getD 18 undef, t.getD 19 undef, t.getD 20 undef, t.getD 21 undef, t.getD 22 undef, t.getD 23 undef, t.getD 24 undef, t.getD 25 undef, t.getD 26 undef, t.getD 27 undef, t.getD 28 undef, t.getD 29 undef, t.getD 30 undef, t.getD 31 undef, t.getD 32 undef, t.getD 33 undef, t.getD 34 undef, t.getD 35 undef, t.getD 36 undef, t.getD 37 undef, t.getD 38 undef, t.getD 39 undef, t.getD 40 undef, t.getD 41 undef, t.getD 42 undef, t.getD 43 undef, t.getD 44 undef, t.getD 45 undef, t.getD 46 undef, t.getD 47 undef, t.getD 48 undef, t.getD 49 undef, t.getD 50 undef, t.getD 51 undef, t.getD 52 undef] := rfl
  exact Eq.mpr (congrArg (fun l : List Value => P ⟨⟨l⟩, []⟩) (h.trans e)) (hP (t.getD 0 undef) (t.getD 1 undef) (t.getD 2 undef) (t.getD 3 undef) (t.getD 4 undef) (t.getD 5 undef) (t.getD 6 undef) (t.getD 7 undef) (t.getD 8 undef) (t.getD 9 undef) (t.getD 10 undef) (t.getD 11 undef) (t.getD 12 undef) (t.getD 13 undef) (t.getD 14 undef) (t.getD 15 undef) (t.getD 16 undef) (t.getD 17 undef) (t.getD 18 undef) (t.getD 19 undef) (t.getD 20 undef) (t.getD 21 undef) (t.getD 22 undef) (t.getD 23 undef) (t.getD 24 undef) (t.getD 25 undef) (t.getD 26 undef) (t.getD 27 undef) (t.getD 28 undef) (t.getD 29 undef) (t.getD 30 undef) (t.getD 31 undef) (t.getD 32 undef) (t.getD 33 undef) (t.getD 34 undef) (t.getD 35 undef) (t.getD 36 undef) (t.getD 37 undef) (t.getD 38 undef) (t.getD 39 undef) (t.getD 40 undef) (t.getD 41 undef) (t.getD 42 undef) (t.getD 43 undef) (t.getD 44 undef) (t.getD 45 undef) (t.getD 46 undef) (t.getD 47 undef) (t.getD 48 undef) (t.getD 49 undef) (t.getD 50 undef) (t.getD 51 undef) (t.getD 52 undef))
theorem eq_seq (lb : Array Value) (W : World) : (binOp .eql 39 (.func (.func 35) #[] lb) .nilFunc).run Try.prog W = .ok (.bool false) W := by kernel_rfl
def WkI (W0 : World) (T : Nat) (pre : List Nat) (S : Nat → Prop) (W : World) : Prop := Keeps (fun k => k = T) W0 W ∧ Blk W T 3 [.int .i64 (4 * (pre.length : Int))] ∧ ∀ k, S k ↔ k = T
theorem wki_stab (W0 : World) (T b : Nat) (hb : W0.heap.size ≤ b) : Stab b (WkI W0 T) := by
  intro pre S X W W' ⟨h1, h2, h3⟩ hin hk hd ht
  exact ⟨h1.then hk (fun i hi hT => absurd (ht i hT) (by omega)), h2.keeps hk (hd _ ((h3 _).2 rfl)), h3⟩
def WkM (W0 : World) (T : Nat) (s : List Nat × Nat × Act) (S : Nat → Prop) (W : World) : Prop := Fr s.2.2 53 [(3, .pointer (some ⟨T, 0, none⟩)), (6, .int .u32 (s.2.1 : Int))] ∧ WkI W0 T s.1 S W
theorem wkm_stab (W0 : World) (T b : Nat) (hb : W0.heap.size ≤ b) : Stab b (WkM W0 T) := by
  intro s S X W W' ⟨h0, h⟩ hin hk hd ht
  exact ⟨h0, wki_stab W0 T b hb s.1 S X W W' h hin hk hd ht⟩
noncomputable def wkBody : Code := (rbods (Try.f6.body.getD .skip)).getD 0 .skip
set_option maxHeartbeats 4000000 in
set_option maxRecDepth 100000 in
theorem wk_body (l : Nat) (W0 : World) (T : Nat) (S : Nat → Prop) (W : World) (a : Act) (hM : WkM W0 T ([], 4, a) S W) (hin : Inb S W) : wkBody.wpIn (Fence.wide.inRound l) 7 Try.prog (Mem.Left (WkI W0 T) (fun _ _ _ _ => False) ([] ++ [4]) S W) a W := by
  obtain ⟨hF, h1, h2, h3⟩ := hM
  simp only at hF h2
  revert hF
  refine fun hF => frames53 (P := fun a => Fr a 53 [(3, .pointer (some ⟨T, 0, none⟩)), (6, .int .u32 ((4 : Nat) : Int))] → wkBody.wpIn (Fence.wide.inRound l) 7 Try.prog (Mem.Left (WkI W0 T) (fun _ _ _ _ => False) ([] ++ [4]) S W) a W) ?_ a hF.1 hF.2.1 hF
  intro u0 u1 u2 u3 u4 u5 u6 u7 u8 u9 u10 u11 u12 u13 u14 u15 u16 u17 u18 u19 u20 u21 u22 u23 u24 u25 u26 u27 u28 u29 u30 u31 u32 u33 u34 u35 u36 u37 u38 u39 u40 u41 u42 u43 u44 u45 u46 u47 u48 u49 u50 u51 u52 hF
  obtain rfl : u3 = .pointer (some ⟨T, 0, none⟩) := hF.at_ 3 _ (by simp)
  obtain rfl : u6 = .int .u32 ((4 : Nat) : Int) := hF.at_ 6 _ (by simp)
  clear hF
  have cT := h2.cell 0
  have fT := h2.frozen 0
  simp only [List.getElem?_cons_zero, List.length_nil] at cT
  have HX := Lib.hid (And.intro h1 (And.intro h2 (And.intro h3 hin)))
  clear h1 h2 h3 hin
  conv => arg 4; whnf
  gi_wp2
  obtain ⟨h1, h2, h3, hin⟩ := HX.out
  have hk5 : Keeps (fun k => k = T) W (W.setCell ⟨T, 0, none⟩ (.int .i64 4)) := Keeps.setCell (S := fun k => k = T) (Keeps.refl _ W) (p := ⟨T, 0, none⟩) (fun _ => rfl) _
  have hb5 := h2.set_ 0 (.int .i64 4)
  exact ⟨fun k => k = T, ⟨hk5.mono (fun k _ e => (h3 k).2 e), fun k hk => .inl ((h3 k).2 hk)⟩, fun k hk => by have hk' : k = T := hk; rw [hk']; exact hb5.lt, h1.trans hk5, hb5, fun _ => Iff.rfl⟩
theorem Vals.u32s {b : Nat} {w : World} {VB : Nat} {V : List Nat} (h : Vals b w VB V) : ∃ v, w.cell? ⟨VB, 0, none⟩ = some v ∧ U32s w v V ∧ ∀ k, rowOf v k → b ≤ k ∧ k < w.heap.size := by
  obtain ⟨h1, a, cp, h2, h3⟩ := h
  refine ⟨.slice a V.length cp, by have := h2.cell 0; simpa using this, ⟨a, cp, rfl, fun i x hx => ?_⟩, ?_⟩
  · rcases h3.2 with ⟨h4, h5⟩ | ⟨g, cap, cur, h4, _⟩
    · have : V = [] := List.length_eq_zero_iff.1 h5
      subst this
      simp at hx
    · obtain ⟨rfl, _⟩ : a = some ⟨g, 0, none⟩ ∧ cp = cap := by simpa using h4
      refine ⟨g, 0, rfl, ?_⟩
      have := h3.cells (g := g) (by simp [Value.ownBlock]) i (.int .u32 (x : Int)) (by simp [u32v, hx])
      rw [Addr.add_mid] at this
      exact this
  · rintro k ⟨a', n, c, e, rfl⟩
    obtain ⟨rfl, rfl, rfl⟩ : a = some a' ∧ V.length = n ∧ cp = c := by simpa using e
    exact h3.lt _ (by simp [Value.ownBlock])
set_option maxHeartbeats 4000000 in
set_option maxRecDepth 100000 in
theorem works_yes (w : World) : Calls Try.prog 6 #[] w fun e w' => e = .returned (.bool true) ∧ Keeps (fun _ => False) w w' := by
  have heq := eq_seq
  refine (callsIn_wide (n := 9)).1 ?_
  refine callsIn_of_wp_marks Try.func6 rfl trivial ?_ rfl
  simp only [Try.ntmps6, List.size_toArray, List.length_cons, List.length_nil, Nat.reduceAdd, Nat.reduceSub, Array.replicate_succ, Array.replicate_zero, List.push_toArray, List.append_toArray, List.nil_append, List.cons_append]
  gi_wp2_with (first
    | (refine ⟨trivial, ?_⟩; gi_at_call 4; refine (callsIn_wide.2 (new_yes _)).mono ?_; rintro e w1 ⟨G, r1, r2, r3, rfl, hN, hk1, hz1, hz2, hz3, hz4⟩; have HN := Lib.hid hN; have HK1 := Lib.hid hk1; have HZ := Lib.hid (And.intro hz1 (And.intro hz2 (And.intro hz3 hz4))); clear hN hk1 hz1 hz2 hz3 hz4)
    | (refine ⟨trivial, ?_⟩; gi_at_call 12; refine (callsIn_wide.2 (put_yes _ G r1 r2 r3 HN.out)).mono ?_; rintro e w2 ⟨rfl, hP, hk2⟩; have HP := Lib.hid hP; have HK2 := Lib.hid (HK1.out.then (T := fun k => k = r1 ∨ k = r2) hk2 (fun i hi e => by have := HZ.out; omega)); have HT := Lib.hid (Blk.new w2 3 [.int .i64 0]); have HP3 := Lib.hid (hP.kd ((Keeps.refl (fun _ => False) w2).alloc (.cells #[.int .i64 0] 3))); clear hP hk2)
    | (refine ⟨trivial, ?_⟩; gi_at_call 7; with_reducible refine (callsIn_wide.2 (at3 _ G r1 r2 r3 HP3.out)).mono ?_; rintro e w4 ⟨V1, rfl, hk4, hv4⟩; have HK4 := Lib.hid hk4; have HV4 := Lib.hid hv4; have HP4 := Lib.hid (HP3.out.kd hk4); clear hk4 hv4)
    | (refine ⟨trivial, ?_⟩; gi_at_call 7; with_reducible refine (callsIn_wide.2 (at50 _ G r1 r2 r3 HP4.out)).mono ?_; rintro e w5 ⟨V2, rfl, hk5, hv5⟩; have HK5 := Lib.hid hk5; have HV5 := Lib.hid hv5; clear hk5 hv5))
  obtain ⟨v1, hv1, hU1, hR1⟩ := (HV4.out.keeps HK5.out (fun _ h => h.elim)).u32s
  obtain ⟨v2, hv2, hU2, hR2⟩ := HV5.out.u32s
  have hT5 := (HT.out.keeps HK4.out (fun h => h)).keeps HK5.out (fun h => h)
  have hTl := hT5.lt
  have hz3 : (w2.alloc (.cells #[.int .i64 0] 3)).heap.size = w2.heap.size + 1 := by simp
  have hzz := HK4.out.size
  refine wpIn_range (gf := 35) (lb := #[.pointer (some ⟨V1, 0, none⟩)]) (encs := fun x : Nat => #[.int .u32 (x : Int)]) (xs := [4]) (A := fun S => ∀ k, S k → ¬ rowOf v1 k) rfl (enters_of Try.func35 (by kernel_rfl) rfl)
    (fun W1 hk => values1_gives 8 V1 v1 [4] W1 (by decide) (hk.cell hv1 (fun h => h)) (by
      obtain ⟨a, cp, e, h⟩ := hU1
      refine ⟨a, cp, e, fun i x hx => ?_⟩
      obtain ⟨b, off, e2, h2⟩ := h i x hx
      exact ⟨b, off, e2, hk.cell h2 (fun h => h)⟩)) (fun _ => rfl)
    (WkI w5 w2.heap.size) (fun _ _ _ _ => False) (wki_stab _ _ _ (Nat.le_refl _)) (fun _ _ _ _ _ _ h => h.elim)
    (fun k => k = w2.heap.size) (fun k hk => by have hk' : k = w2.heap.size := hk; omega) ⟨Keeps.refl _ _, hT5, fun _ => Iff.rfl⟩ (fun S hS k hk hr => by have := hR1 k hr; have := HK5.out.size; rcases hS k hk with h | h <;> omega)
    (WkM w5 w2.heap.size) (wkm_stab _ _ _ (Nat.le_refl _)) ?assign ?body ?done ?stop
  case assign =>
    intro l pre x rest S W hxs hI hin hlt
    have HX := Lib.hid (And.intro hI hin)
    clear hI hin hv1 hU1 hR1 hv2 hU2 hR2 hT5
    gi_wp2
    exact ⟨S, Foot.refl _ _, HX.out.2, ⟨rfl, rfl, by simp⟩, HX.out.1⟩
  case body =>
    intro l pre x rest a1 S W hxs hM hin hlt
    obtain ⟨rfl, rfl, rfl⟩ : pre = [] ∧ x = 4 ∧ rest = [] := by
      rcases pre with _ | ⟨p, pre⟩
      · simp at hxs; exact ⟨rfl, hxs.1.symm, hxs.2⟩
      · simp at hxs
    exact wk_body l w5 w2.heap.size S W a1 hM hin
  case stop =>
    intro D c0 pre S' W' hD hnD hf hin hpre hx
    exact hx.elim
  case done =>
    rintro D S' W' hD hnD hf hin ⟨k6, hT6, hS6⟩ hDD
    have hT6' : Blk W' w2.heap.size 3 [.int .i64 4] := hT6
    have hkW : Keeps (fun _ => False) w2 W' := ((((Keeps.refl (fun _ => False) w2).alloc (.cells #[.int .i64 0] 3)).trans HK4.out).trans HK5.out).then k6 (fun i hi e => by omega)
    obtain ⟨v2, hv2, hU2, hR2⟩ := (HV5.out.keeps k6 (fun k e => by have e' : k = w2.heap.size := e; omega)).u32s
    have HX := Lib.hid (And.intro hT6' hkW)
    have HD := Lib.hid (And.intro hD (And.intro hnD hDD))
    have HR := Lib.hid (And.intro hv2 (And.intro hU2 hR2))
    clear hT6 k6 hS6 hv1 hU1 hR1 hT5 hTl hz3 hzz hD hnD hDD hf hin hT6' hkW hv2 hU2 hR2
    gi_wp2
    refine wpIn_range (gf := 35) (lb := #[.pointer (some ⟨V2, 0, none⟩)]) (encs := fun x : Nat => #[.int .u32 (x : Int)]) (xs := []) (A := fun S => ∀ k, S k → ¬ rowOf v2 k) rfl (enters_of Try.func35 (by kernel_rfl) rfl)
      (fun W1 hk => values1_gives 8 V2 v2 [] W1 (by decide) (hk.cell HR.out.1 (fun h => h)) (by
        obtain ⟨a, cp, e, h⟩ := HR.out.2.1
        exact ⟨a, cp, e, fun i x hx => by simp at hx⟩)) (fun _ => rfl)
      (fun _ S W => Keeps (fun _ => False) W' W ∧ ∀ k, ¬ S k) (fun _ _ _ _ => False) (fun pre S X W W1 h hin hk hd ht => ⟨h.1.then hk (fun i hi hT => absurd (ht i hT) (by omega)), h.2⟩) (fun _ _ _ _ _ _ h => h.elim)
      (fun k => False) (fun k hk => hk.elim) ⟨Keeps.refl _ _, fun _ h => h⟩ (fun S hS k hk hr => by have := HR.out.2.2 k hr; rcases hS k hk with h | h; exact h.elim; omega)
      (fun _ _ _ => True) (fun _ _ _ _ _ h _ _ _ _ => trivial) ?assign ?body ?done ?stop
    case assign => intro l pre x rest S W hxs; simp at hxs
    case body => intro l pre x rest a1 S W hxs; simp at hxs
    case stop =>
      intro D c pre S' W' hD hnD hf hin hpre h
      exact h.elim
    case done =>
      rintro D2 S2 W2 hD2 hnD2 hf2 hin2 ⟨k7, _⟩ hDD2
      obtain ⟨hD, hnD, hDD⟩ := HD.out
      have hDl : D < W'.heap.size := (Array.getElem?_eq_some_iff.1 hDD).1
      have cT := (HX.out.1.keeps k7 (fun h => h)).cell 0
      simp only [List.getElem?_cons_zero] at cT
      have HDD := Lib.hid (And.intro hD2 (And.intro hDD2 (And.intro hDl ((k7.block D hDl (fun h => h)).trans hDD))))
      have HK7 := Lib.hid (HX.out.2.trans k7)
      have HPW := Lib.hid (HP.out.kd (HX.out.2.trans k7))
      clear hD hnD hDD hDl k7 hD2 hnD2 hDD2 hf2 hin2
      gi_wp2_with (refine ⟨trivial, ?_⟩; gi_at_call 13; with_reducible refine (callsIn_wide.2 (len_one _ G r1 r2 r3 HPW.out)).mono ?_; rintro e w8 ⟨rfl, rfl⟩)
      obtain ⟨hD2, hDD2, hDl, hDD⟩ := HDD.out
      refine ⟨by simp, .inl ⟨_, _, rfl, run_takeDeferred hDD2, ?_⟩⟩
      have kp := keeps_putObj W2 D2 (.deferred none)
      have hne : D ≠ D2 := by omega
      have hDD3 := (kp.block D (Array.getElem?_eq_some_iff.1 hDD).1 hne).trans hDD
      refine ⟨by simp, .inl ⟨_, _, rfl, run_takeDeferred hDD3, ?_⟩⟩
      have kp2 := keeps_putObj (W2.putObj D2 (.deferred none)) D (.deferred none)
      refine ⟨_, results_tmp rfl _ _ _, rfl, ?_⟩
      have hw := HK2.out.trans HK7.out
      have hz := HK2.out.size
      have s4 := HK4.out.size
      have s5 := HK5.out.size
      have sx := HX.out.2.size
      have hD := HD.out.1
      simp only [World.size_alloc] at s4
      exact (hw.then kp (fun i hi e => by have e' : i = D2 := e; omega)).then kp2 (fun i hi e => by have e' : i = D := e; omega)
end Gr
end Go.Proofs.Ytdbpfbokfmpgcaa
namespace Go.Proofs.Ytdbpfbokfmpgcaa
open Go.RowKit Go.Shelf
set_option linter.unusedVariables false
set_option linter.unusedSimpArgs false
attribute [local go_sem] Oper.semAt_some
namespace Gr
open Mem Tree
def NoG (w : World) (p : Option Addr) : Prop := p = none ∨ ∃ b, p = some ⟨b, 0, none⟩ ∧ Blk w b 52 [.int .i64 0, .map none, .map none, .map none]
theorem NoG.keeps {w w' : World} {p : Option Addr} (h : NoG w p) (k : Keeps (fun _ => False) w w') : NoG w' p := by
  rcases h with h | ⟨b, h, hb⟩
  · exact .inl h
  · exact .inr ⟨b, h, hb.keeps k id⟩
theorem neq_mapn (W : World) : (binOp .neq 48 (.map none) (.map none)).run Try.prog W = .ok (.bool false) W := by kernel_rfl
set_option maxRecDepth 100000 in
theorem there_no (p : Option Addr) (w : World) (h : NoG w p) : Calls Try.prog 14 #[.pointer p] w fun e w' => e = .returned (.bool false) ∧ w = w' := by
  rcases h with rfl | ⟨b, rfl, hb⟩
  · go_enter Try.func14, Try.ntmps14
    go_wp2
    go_ret
    exact ⟨rfl, rfl⟩
  · have hm := neq_mapn
    have c := hb.cell
    clear hb
    go_enter Try.func14, Try.ntmps14
    go_wp2
    go_ret
    exact ⟨rfl, rfl⟩
theorem len_no (p : Option Addr) (w : World) (h : NoG w p) : Calls Try.prog 13 #[.pointer p] w fun e w' => e = .returned (.int .i64 0) ∧ w = w' := by
  go_enter Try.func13, Try.ntmps13
  go_wp2_with (go_at_call 14; with_reducible refine (there_no p _ (h.keeps (by (repeat (first | exact Keeps.refl _ _ | refine Keeps.alloc ?_ _ | refine Keeps.drew ?_))))).mono ?_; rintro e w1 ⟨rfl, rfl⟩)
  go_ret
  exact ⟨rfl, rfl⟩
theorem apart_no (p : Option Addr) (w : World) (h : NoG w p) : Calls Try.prog 28 #[.pointer p] w fun e w' => e = .returned (.int .i64 0) ∧ w = w' := by
  go_enter Try.func28, Try.ntmps28
  go_wp2_with (go_at_call 14; with_reducible refine (there_no p _ (h.keeps (by (repeat (first | exact Keeps.refl _ _ | refine Keeps.alloc ?_ _ | refine Keeps.drew ?_))))).mono ?_; rintro e w1 ⟨rfl, rfl⟩)
  go_ret
  exact ⟨rfl, rfl⟩
theorem cells_no (p : Option Addr) (w : World) (h : NoG w p) : Calls Try.prog 30 #[.pointer p] w fun e w' => e = .returned (.int .i64 0) ∧ w = w' := by
  go_enter Try.func30, Try.ntmps30
  go_wp2_with (go_at_call 14; with_reducible refine (there_no p _ (h.keeps (by (repeat (first | exact Keeps.refl _ _ | refine Keeps.alloc ?_ _ | refine Keeps.drew ?_))))).mono ?_; rintro e w1 ⟨rfl, rfl⟩)
  go_ret
  exact ⟨rfl, rfl⟩
theorem put_no (p : Option Addr) (id x0 y0 x1 y1 : Int) (w : World) (h : NoG w p) : Calls Try.prog 12 #[.pointer p, .int .u32 id, .agg #[.int .i32 x0, .int .i32 y0, .int .i32 x1, .int .i32 y1]] w (Gave (.int .i64 1) w) := by
  refine (callsIn_wide (n := 9)).1 ?_
  refine callsIn_of_wp_marks Try.func12 rfl trivial ?_ rfl
  simp only [Try.ntmps12, List.size_toArray, List.length_cons, List.length_nil, Nat.reduceAdd, Nat.reduceSub, Array.replicate_succ, Array.replicate_zero, List.push_toArray, List.append_toArray, List.nil_append, List.cons_append]
  refine wpIn_wide.2 ?_
  go_wp2_with (go_at_call 14; with_reducible refine (there_no p _ (h.keeps (by (repeat (first | exact Keeps.refl _ _ | refine Keeps.alloc ?_ _ | refine Keeps.drew ?_))))).mono ?_; rintro e w1 ⟨rfl, rfl⟩)
  exact ⟨_, results_tmp rfl _ _ _, rfl, by (repeat (first | exact Keeps.refl _ _ | refine Keeps.alloc ?_ _ | refine Keeps.drew ?_))⟩
theorem del_no (p : Option Addr) (id : Int) (w : World) (h : NoG w p) : Calls Try.prog 24 #[.pointer p, .int .u32 id] w (Gave (.int .i64 1) w) := by
  refine (callsIn_wide (n := 9)).1 ?_
  refine callsIn_of_wp_marks Try.func24 rfl trivial ?_ rfl
  simp only [Try.ntmps24, List.size_toArray, List.length_cons, List.length_nil, Nat.reduceAdd, Nat.reduceSub, Array.replicate_succ, Array.replicate_zero, List.push_toArray, List.append_toArray, List.nil_append, List.cons_append]
  refine wpIn_wide.2 ?_
  go_wp2_with (go_at_call 14; with_reducible refine (there_no p _ (h.keeps (by (repeat (first | exact Keeps.refl _ _ | refine Keeps.alloc ?_ _ | refine Keeps.drew ?_))))).mono ?_; rintro e w1 ⟨rfl, rfl⟩)
  exact ⟨_, results_tmp rfl _ _ _, rfl, by (repeat (first | exact Keeps.refl _ _ | refine Keeps.alloc ?_ _ | refine Keeps.drew ?_))⟩
def NV (w : World) (e : Ending) (w' : World) : Prop := ∃ VB, e = .returned (.func (.func 35) #[] #[.pointer (some ⟨VB, 0, none⟩)]) ∧ Keeps (fun _ => False) w w' ∧ Blk w' VB 41 [.slice none 0 0] ∧ w.heap.size ≤ VB
theorem at_no (p : Option Addr) (x y : Int) (w : World) (h : NoG w p) : Calls Try.prog 7 #[.pointer p, .agg #[.int .i32 x, .int .i32 y]] w (NV w) := by
  go_enter Try.func7, Try.ntmps7
  go_wp2_with (first | (go_at_call 14; with_reducible refine (there_no p _ (h.keeps (by (repeat (first | exact Keeps.refl _ _ | refine Keeps.alloc ?_ _ | refine Keeps.drew ?_))))).mono ?_; rintro e w1 ⟨rfl, rfl⟩) | (go_at_call 16; with_reducible refine (values_any _ _ _ _).mono ?_; rintro e w2 ⟨rfl, rfl⟩))
  go_ret
  have hb := Blk.new (w.alloc (.cells #[.int .i32 x, .int .i32 y] 33)) 41 [.slice none 0 0]
  simp only [World.size_alloc] at hb
  exact ⟨_, rfl, by (repeat (first | exact Keeps.refl _ _ | refine Keeps.alloc ?_ _ | refine Keeps.drew ?_)), hb, by omega⟩
theorem crossing_no (p : Option Addr) (x y x1 y1 : Int) (w : World) (h : NoG w p) : Calls Try.prog 26 #[.pointer p, .agg #[.int .i32 x, .int .i32 y], .agg #[.int .i32 x1, .int .i32 y1]] w (NV w) := by
  go_enter Try.func26, Try.ntmps26
  go_wp2_with (first | (go_at_call 14; with_reducible refine (there_no p _ (h.keeps (by (repeat (first | exact Keeps.refl _ _ | refine Keeps.alloc ?_ _ | refine Keeps.drew ?_))))).mono ?_; rintro e w1 ⟨rfl, rfl⟩) | (go_at_call 16; with_reducible refine (values_any _ _ _ _).mono ?_; rintro e w2 ⟨rfl, rfl⟩))
  go_ret
  have hb := Blk.new ((w.alloc (.cells #[.int .i32 x, .int .i32 y] 33)).alloc (.cells #[.int .i32 x1, .int .i32 y1] 33)) 41 [.slice none 0 0]
  simp only [World.size_alloc] at hb
  exact ⟨_, rfl, by (repeat (first | exact Keeps.refl _ _ | refine Keeps.alloc ?_ _ | refine Keeps.drew ?_)), hb, by omega⟩
end Gr
end Go.Proofs.Ytdbpfbokfmpgcaa
