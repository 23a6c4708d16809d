/-
HxL: tells: a list is told, twice over, and left early.
-/
import Derived.Test.YtdbpfbokfmpgcaaZbfHxAHxBHxCHxP
import Derived.Test.YtdbpfbokfmpgcaaZaoFrGsBHeldInFr181
namespace Go.Proofs.Ytdbpfbokfmpgcaa
open Go.RowKit Go.Shelf
set_option linter.unusedVariables false
set_option linter.unusedSimpArgs false
set_option linter.ambiguousOpen false
attribute [local go_sem] Oper.semAt_some
namespace Gx
open Mem Tree Gr Gs
theorem frames40 {P : Act → Prop} (hP : ∀ u0 u1 u2 u3 u4 u5 u6 u7 u8 u9 u10 u11 u12 u13 u14 u15 u16 u17 u18 u19 u20 u21 u22 u23 u24 u25 u26 u27 u28 u29 u30 u31 u32 u33 u34 u35 u36 u37 u38 u39 : Value, P ⟨#[u0, u1, u2, u3, u4, u5, u6, u7, u8, u9, u10, u11, u12, u13, u14, u15, u16, u17, u18, u19, u20, u21, u22, u23, u24, u25, u26, u27, u28, u29, u30, u31, u32, u33, u34, u35, u36, u37, u38, u39], []⟩) : ∀ a : Act, a.tmps.size = 40 → a.defers = [] → P a := by
  rintro ⟨⟨t⟩, d⟩ h1 h2
  simp only [List.size_toArray] at h1 h2
  subst h2
  have h := unroll t 40 h1
  have e : (List.range 40).map (fun i => t.getD i undef) = [t.getD 0 undef, t.getD 1 undef, t.getD 2 undef, t.getD 3 undef, t.getD 4 undef, t.getD 5 undef, t.getD 6 undef, t.getD 7 undef, t.getD 8 undef, t.getD 9 undef, t.getD 10 undef, t.getD 11 undef, t.getD 12 undef, t.getD 13 undef, t.getD 14 undef, t.getD 15 undef, t.getD 16 undef, t.getD 17 undef, t.getD 18 undef, t.getD 19 undef, t.getD 20 undef, t.getD 21 undef, t.getD 22 undef, t.getD 23 undef, t.getD 24 undef, t.getD 25 undef, t.getD 26 undef, t.getD 27 undef, t.getD 28 undef, t.getD 29 undef, t.getD 30 undef, t.getD 31 undef, t.getD 32 undef, t.getD 33 undef, t.getD 34 undef, t.getD 35 undef, t.getD 36 undef, t.getD 37 undef, t.getD 38 undef, t.getD 39 undef] := rfl
  exact Eq.mpr (congrArg (fun l : List Value => P ⟨⟨l⟩, []⟩) (h.trans e)) (hP (t.getD 0 undef) (t.getD 1 undef) (t.getD 2 undef) (t.getD 3 undef) (t.getD 4 undef) (t.getD 5 undef) (t.getD 6 undef) (t.getD 7 undef) (t.getD 8 undef) (t.getD 9 undef) (t.getD 10 undef) (t.getD 11 undef) (t.getD 12 undef) (t.getD 13 undef) (t.getD 14 undef) (t.getD 15 undef) (t.getD 16 undef) (t.getD 17 undef) (t.getD 18 undef) (t.getD 19 undef) (t.getD 20 undef) (t.getD 21 undef) (t.getD 22 undef) (t.getD 23 undef) (t.getD 24 undef) (t.getD 25 undef) (t.getD 26 undef) (t.getD 27 undef) (t.getD 28 undef) (t.getD 29 undef) (t.getD 30 undef) (t.getD 31 undef) (t.getD 32 undef) (t.getD 33 undef) (t.getD 34 undef) (t.getD 35 undef) (t.getD 36 undef) (t.getD 37 undef) (t.getD 38 undef) (t.getD 39 undef))
theorem below_k {W0 W W' : World} {T : Nat → Prop} {b : Nat} (h : Below W0.heap.size W0 W) (hk : Keeps T W W') (hb : W0.heap.size ≤ b) (ht : ∀ k, T k → b ≤ k) : Below W0.heap.size W0 W' :=
  h.trans ⟨hk.os, hk.tape, hk.output, hk.size, fun k hk' => hk.block k (by have := h.size; omega) (fun h => by have := ht _ h; omega)⟩
def TlI (C : Nat) (W0 : World) (pre : List Nat) (S : Nat → Prop) (W : World) : Prop := Blk W C 3 [.int .i64 (pre.length : Int)] ∧ Below W0.heap.size W0 W ∧ ∀ k, S k ↔ k = C
theorem tli_stab (C : Nat) (W0 : World) (b : Nat) (hb : W0.heap.size ≤ b) : Stab b (TlI C W0) :=
  fun pre S T W W' ⟨h1, h2, h3⟩ hin hk hd ht => ⟨h1.keeps hk (hd _ ((h3 _).2 rfl)), below_k h2 hk hb ht, h3⟩
def TlM (C B0 B1 rd : Nat) (W0 : World) (s : List Nat × Nat × Act) (S : Nat → Prop) (W : World) : Prop :=
  Fr s.2.2 40 [(1, .pointer (some ⟨B0, 0, none⟩)), (2, .pointer (some ⟨B1, 0, none⟩)), (3, .int .i64 (rd : Int)), (4, .pointer (some ⟨C, 0, none⟩)), (5, .int .u32 (s.2.1 : Int))] ∧ TlI C W0 s.1 S W
theorem tlm_stab (C B0 B1 rd : Nat) (W0 : World) (b : Nat) (hb : W0.heap.size ≤ b) : Stab b (TlM C B0 B1 rd W0) :=
  fun s S T W W' ⟨hF, h⟩ hin hk hd ht => ⟨hF, tli_stab C W0 b hb s.1 S T W W' h hin hk hd ht⟩
def TlJ (W0 : World) (pre : List Nat) (S : Nat → Prop) (W : World) : Prop := Below W0.heap.size W0 W ∧ ∀ k, ¬ S k
theorem tlj_stab (W0 : World) (b : Nat) (hb : W0.heap.size ≤ b) : Stab b (TlJ W0) :=
  fun pre S T W W' ⟨h2, h3⟩ hin hk hd ht => ⟨below_k h2 hk hb ht, h3⟩
def TlX (W0 : World) (c : Code) (pre : List Nat) (S : Nat → Prop) (W : World) : Prop := c = .exit 4 ∧ TlJ W0 pre S W
theorem tlx_stab (W0 : World) (b : Nat) (hb : W0.heap.size ≤ b) (c : Code) : Stab b (TlX W0 c) :=
  fun pre S T W W' ⟨h1, h⟩ hin hk hd ht => ⟨h1, tlj_stab W0 b hb pre S T W W' h hin hk hd ht⟩
def TlN (W0 : World) (s : List Nat × Nat × Act) (S : Nat → Prop) (W : World) : Prop := TlJ W0 s.1 S W
theorem tln_stab (W0 : World) (b : Nat) (hb : W0.heap.size ≤ b) : Stab b (TlN W0) :=
  fun s S T W W' h hin hk hd ht => tlj_stab W0 b hb s.1 S T W W' h hin hk hd ht
noncomputable def tlLoop : Code := (loops (Try.f10.body.getD .skip)).getD 0 .skip
noncomputable def tlBody : Code := (rbods (Try.f10.body.getD .skip)).getD 0 .skip
set_option maxHeartbeats 4000000 in
set_option maxRecDepth 100000 in
theorem tl_body (l C B0 B1 rd VB : Nat) (oa : Option Addr) (n oc b : Nat) (V : List Nat) (hn : n = V.length) (hn2 : n ≤ 1000000) (W0 : World) (b0 : Blk W0 B0 44 [.func (.func 35) #[] #[.pointer (some ⟨VB, 0, none⟩)], .slice oa n oc]) (hO : W0.ownsRow b 31 1 (.slice oa n oc) n (u32v V)) (hC : C = W0.heap.size)
    (pre : List Nat) (x : Nat) (rest : List Nat) (a : Act) (S : Nat → Prop) (W : World) (hxs : V = pre ++ x :: rest) (hM : TlM C B0 B1 rd W0 (pre, x, a) S W) (hin : Inb S W) : tlBody.wpIn (Fence.wide.inRound l) 7 Try.prog (Mem.Left (TlI C W0) (fun _ _ _ _ => False) (pre ++ [x]) S W) a W := by
  obtain ⟨hF, h1, h2, h3⟩ := hM
  simp only at hF h1 h3
  revert hF
  refine fun hF => frames40 (P := fun a => Fr a 40 [(1, .pointer (some ⟨B0, 0, none⟩)), (2, .pointer (some ⟨B1, 0, none⟩)), (3, .int .i64 (rd : Int)), (4, .pointer (some ⟨C, 0, none⟩)), (5, .int .u32 (x : Int))] → tlBody.wpIn (Fence.wide.inRound l) 7 Try.prog (Mem.Left (TlI C W0) (fun _ _ _ _ => False) (pre ++ [x]) S W) a W) ?_ a hF.1 hF.2.1 hF
  intro u0 u1 u2 u3 u4 u5 u6 u7 u8 u9 u10 u11 u12 u13 u14 u15 u16 u17 u18 u19 u20 u21 u22 u23 u24 u25 u26 u27 u28 u29 u30 u31 u32 u33 u34 u35 u36 u37 u38 u39 hF
  obtain rfl : u1 = .pointer (some ⟨B0, 0, none⟩) := hF.at_ 1 _ (by simp)
  obtain rfl : u2 = .pointer (some ⟨B1, 0, none⟩) := hF.at_ 2 _ (by simp)
  obtain rfl : u3 = .int .i64 (rd : Int) := hF.at_ 3 _ (by simp)
  obtain rfl : u4 = .pointer (some ⟨C, 0, none⟩) := hF.at_ 4 _ (by simp)
  obtain rfl : u5 = .int .u32 (x : Int) := hF.at_ 5 _ (by simp)
  clear hF
  have kW := Keeps.of_below0 h2
  obtain ⟨i, hi⟩ : ∃ i : Nat, i = pre.length := ⟨_, rfl⟩
  have hx : V[i]? = some x := by rw [hxs, hi]; simp
  have hiV : i < n := by rw [hn]; exact (List.getElem?_eq_some_iff.1 hx).1
  have hO1 := owns_keeps hO kW (fun _ _ h => h)
  have hxc : ∃ g, oa = some ⟨g, 0, none⟩ ∧ W.cell? ⟨g, i, none⟩ = some (.int .u32 (x : Int)) := by
    rcases hO1.2 with ⟨_, h0⟩ | ⟨g, cap, cur, hv, _, _, _⟩
    · omega
    · simp only [Value.slice.injEq] at hv
      have hc := hO1.cells (g := g) (by rw [hv.1]; rfl) i (.int .u32 (x : Int)) (by simp [u32v, hx])
      rw [Addr.add_mid, Nat.zero_add] at hc
      exact ⟨g, hv.1, hc⟩
  obtain ⟨g, rfl, cx⟩ := hxc
  have c0 := (b0.below h2 b0.lt).cell
  have cN := h1.cell 0
  have fN := h1.frozen 0
  simp only [List.getElem?_cons_zero, ← hi] at cN
  have hiI : (i : Int) < n := by omega
  have hi0 : (0 : Int) ≤ i := by omega
  have hnI : (n : Int) ≤ 1000000 := by omega
  have d1 : decide (i ≥ n) = false := decide_eq_false (by omega)
  have d2 : decide (n ≤ i) = false := decide_eq_false (by omega)
  have HX := Lib.hid (And.intro h1 (And.intro h2 (And.intro h3 (And.intro hin (And.intro hi hC)))))
  clear hO hO1 hxs hx hi hin h1 h2 h3 kW b0 hC hn hn2
  conv => arg 4; whnf
  gi_wp2
  obtain ⟨h1, h2, h3, hin, hi, hC⟩ := HX.out
  have k1 : Keeps (fun k => k = C) W (W.setCell ⟨C, 0, none⟩ (.int .i64 ((i : Int) + 1))) := Keeps.setCell (S := fun k => k = C) (Keeps.refl _ W) (p := ⟨C, 0, none⟩) (fun _ => rfl) _
  have b1 := h1.set_ 0 (.int .i64 ((i : Int) + 1))
  have e1 : ((pre ++ [x]).length : Int) = (i : Int) + 1 := by rw [hi]; simp
  refine ⟨fun k => k = C, ⟨k1.mono (fun k _ e => (h3 k).2 e), fun k hk => .inl ((h3 k).2 hk)⟩, fun k hk => ?_, ?_, below_k h2 k1 (Nat.le_of_eq hC.symm) (fun k e => Nat.le_of_eq e.symm), fun _ => Iff.rfl⟩
  · rw [hk]; exact b1.lt
  · rw [e1]; exact b1
def coll (D : Nat) : Deferred := { target := .collected D, args := #[] }
def TlP (B0 B1 rd : Nat) (ds : List Deferred) (W : World) (e : Exit) (a : Act) (W' : World) : Prop :=
  e = .normal ∧ ∃ t D1 D2, a = ⟨t, coll D2 :: coll D1 :: ds⟩ ∧ Fr ⟨t, []⟩ 40 [(1, .pointer (some ⟨B0, 0, none⟩)), (2, .pointer (some ⟨B1, 0, none⟩)), (3, .int .i64 ((rd : Int) + 1))] ∧ Below W.heap.size W W' ∧ W.heap.size ≤ D1 ∧ D1 < D2 ∧ W'.heap[D1]? = some (.deferred (some [])) ∧ W'.heap[D2]? = some (.deferred (some []))
set_option maxHeartbeats 4000000 in
set_option maxRecDepth 100000 in
theorem tl_round (B0 B1 rd VB : Nat) (oa : Option Addr) (n oc b bv : Nat) (V : List Nat) (hn : n = V.length) (hn2 : n ≤ 1000000) (ds : List Deferred) (W : World) (b0 : Blk W B0 44 [.func (.func 35) #[] #[.pointer (some ⟨VB, 0, none⟩)], .slice oa n oc]) (hO : W.ownsRow b 31 1 (.slice oa n oc) n (u32v V)) (hv : Vals bv W VB V) (hrd : rd < 2)
    (a : Act) (hF : Fr a 40 [(1, .pointer (some ⟨B0, 0, none⟩)), (2, .pointer (some ⟨B1, 0, none⟩)), (3, .int .i64 ((rd : Int)))]) : tlLoop.wpIn Fence.wide 9 Try.prog (TlP B0 B1 rd ds W) { a with defers := ds } W := by
  revert hF
  refine fun hF => frames40 (P := fun a => Fr a 40 [(1, .pointer (some ⟨B0, 0, none⟩)), (2, .pointer (some ⟨B1, 0, none⟩)), (3, .int .i64 (rd : Int))] → tlLoop.wpIn Fence.wide 9 Try.prog (TlP B0 B1 rd ds W) { a with defers := ds } W) ?_ a hF.1 hF.2.1 hF
  intro u0 u1 u2 u3 u4 u5 u6 u7 u8 u9 u10 u11 u12 u13 u14 u15 u16 u17 u18 u19 u20 u21 u22 u23 u24 u25 u26 u27 u28 u29 u30 u31 u32 u33 u34 u35 u36 u37 u38 u39 hF
  obtain rfl : u1 = .pointer (some ⟨B0, 0, none⟩) := hF.at_ 1 _ (by simp)
  obtain rfl : u2 = .pointer (some ⟨B1, 0, none⟩) := hF.at_ 2 _ (by simp)
  obtain rfl : u3 = .int .i64 (rd : Int) := hF.at_ 3 _ (by simp)
  clear hF
  have hrdI : (rd : Int) < 2 := by omega
  have k1 := (Keeps.refl (fun _ => False) W).alloc (.cells #[.int .i64 0] 3)
  have hz1 : (W.alloc (.cells #[.int .i64 0] 3)).heap.size = W.heap.size + 1 := by simp
  obtain ⟨v, hvc, hU, hR⟩ := hv.u32s
  have HR := Lib.hid (And.intro hvc (And.intro hU hR))
  have HO := Lib.hid hO
  have H0 := Lib.hid b0
  have HB1 := Lib.hid (Blk.new W 3 [.int .i64 0])
  have HN := Lib.hid (And.intro hn hn2)
  have c0 := (b0.alloc (.cells #[.int .i64 0] 3)).cell
  have hnI : (n : Int) ≤ 1000000 := by omega
  have hne : ((n : Int) != (n : Int)) = false := by simp
  conv => arg 4; whnf
  dsimp only
  clear hv hvc hU hR hO b0 hn hn2
  gi_wp2
  obtain ⟨hvc, hU, hR⟩ := HR.out
  refine wpIn_range (gf := 35) (lb := #[.pointer (some ⟨VB, 0, none⟩)]) (encs := fun x : Nat => #[.int .u32 (x : Int)]) (xs := V) (A := fun S => ∀ k, S k → ¬ rowOf v k) rfl (enters_of Try.func35 (by kernel_rfl) rfl)
    (fun W1 hk => values1_gives 8 VB v V W1 (by have := HN.out; omega) ((k1.trans hk).cell hvc (fun h => h)) (by
      obtain ⟨a, cp, e, h⟩ := hU
      refine ⟨a, cp, e, fun i x hx => ?_⟩
      obtain ⟨b, off, e2, h2⟩ := h i x hx
      exact ⟨b, off, e2, (k1.trans hk).cell h2 (fun h => h)⟩)) (fun _ => rfl)
    (TlI W.heap.size W) (fun _ _ _ _ => False) (tli_stab _ _ _ (by omega)) (fun _ _ _ _ _ _ h => h.elim)
    (fun k => k = W.heap.size) (fun k hk => by rw [hz1]; omega) ⟨HB1.out, (Below.refl _ W).alloc (Nat.le_refl _) _, fun _ => Iff.rfl⟩ (fun S hS k hk hr => by have := (hR k hr).2; rcases hS k hk with h | h <;> omega)
    (TlM W.heap.size B0 B1 rd W) (tlm_stab _ _ _ _ _ _ (by omega)) ?assign ?body ?done ?stop
  case assign =>
    intro l pre x rest S W' hxs hI hin hlt
    have HX := Lib.hid (And.intro hI hin)
    clear hI hin hvc hU hR
    gi_wp2
    exact ⟨S, Foot.refl _ _, HX.out.2, ⟨rfl, rfl, by simp⟩, HX.out.1⟩
  case body =>
    intro l pre x rest a1 S W' hxs hM hin hlt
    exact tl_body l W.heap.size B0 B1 rd VB oa n oc b V HN.out.1 HN.out.2 W H0.out HO.out rfl pre x rest a1 S W' hxs hM hin
  case stop =>
    intro D c0 pre S' W' hD hnD hf hin hpre hx
    exact hx.elim
  case done =>
    rintro D S' W' hD hnD hf hin ⟨hNb, hB, hS⟩ hDD
    have cN := hNb.cell 0
    simp only [List.getElem?_cons_zero, ← HN.out.1] at cN
    have c0' := (H0.out.below hB H0.out.lt).cell
    have HB := Lib.hid hB
    have HD := Lib.hid (And.intro hD hDD)
    have hz := hB.size
    clear hvc hU hR c0 hNb hB hS hDD hD hnD hf hin
    gi_wp2
    have kW := Keeps.of_below0 HB.out
    obtain ⟨hvc, hU, hR⟩ := HR.out
    refine wpIn_range (gf := 35) (lb := #[.pointer (some ⟨VB, 0, none⟩)]) (encs := fun x : Nat => #[.int .u32 (x : Int)]) (xs := V) (A := fun S => ∀ k, S k → ¬ rowOf v k) rfl (enters_of Try.func35 (by kernel_rfl) rfl)
      (fun W1 hk => values1_gives 8 VB v V W1 (by have := HN.out; omega) ((kW.trans hk).cell hvc (fun h => h)) (by
        obtain ⟨a, cp, e, h⟩ := hU
        refine ⟨a, cp, e, fun i x hx => ?_⟩
        obtain ⟨b, off, e2, h2⟩ := h i x hx
        exact ⟨b, off, e2, (kW.trans hk).cell h2 (fun h => h)⟩)) (fun _ => rfl)
      (TlJ W') (TlX W') (tlj_stab _ _ (Nat.le_refl _)) (tlx_stab _ _ (Nat.le_refl _))
      (fun _ => False) (fun k hk => hk.elim) ⟨Below.refl _ W', fun _ h => h⟩ (fun S hS k hk hr => by have := (hR k hr).2; rcases hS k hk with h | h; exact h.elim; omega)
      (TlN W') (tln_stab _ _ (Nat.le_refl _)) ?assign2 ?body2 ?done2 ?stop2
    case assign2 =>
      intro l pre x rest S W2 hxs hI hin hlt
      have HX := Lib.hid (And.intro hI hin)
      clear hI hin hvc hU hR
      gi_wp2
      exact ⟨S, Foot.refl _ _, HX.out.2, HX.out.1⟩
    case body2 =>
      intro l pre x rest a1 S W2 hxs hM hin hlt
      have HX := Lib.hid (And.intro hM hin)
      clear hM hin hvc hU hR
      gi_wp2
      exact ⟨S, Foot.refl _ _, HX.out.2, rfl, HX.out.1⟩
    case done2 =>
      rintro D2 S2 W2 hD2 hnD2 hf2 hin2 ⟨hB2, hS2⟩ hDD2
      have HB2 := Lib.hid hB2
      have HD2 := Lib.hid (And.intro hD2 hDD2)
      clear hvc hU hR hB2 hS2 hDD2 hD2 hnD2 hf2 hin2 c0'
      gi_wp2
      (have l1 := (Array.getElem?_eq_some_iff.1 HD.out.2).1; exact ⟨rfl, _, D, D2, rfl, ⟨rfl, rfl, by simp⟩, HB.out.trans (HB2.out.mono HB.out.size), (by have := HD.out.1; simp at this; omega), (by have := HD2.out.1; omega), ((Keeps.of_below0 HB2.out).block D l1 (fun h => h)).trans HD.out.2, HD2.out.2⟩)
    case stop2 =>
      rintro D2 cx pre S2 W2 hD2 hnD2 hf2 hin2 hpre ⟨rfl, hB2, hS2⟩ hDD2
      have HB2 := Lib.hid hB2
      have HD2 := Lib.hid (And.intro hD2 hDD2)
      clear hvc hU hR hB2 hS2 hDD2 hD2 hnD2 hf2 hin2 c0' hpre
      gi_wp2
      (have l1 := (Array.getElem?_eq_some_iff.1 HD.out.2).1; exact ⟨rfl, _, D, D2, rfl, ⟨rfl, rfl, by simp⟩, HB.out.trans (HB2.out.mono HB.out.size), (by have := HD.out.1; simp at this; omega), (by have := HD2.out.1; omega), ((Keeps.of_below0 HB2.out).block D l1 (fun h => h)).trans HD.out.2, HD2.out.2⟩)
theorem tl_rd (B0 B1 rd VB : Nat) (oa : Option Addr) (n oc b bv : Nat) (V : List Nat) (hn : n = V.length) (hn2 : n ≤ 1000000) (ds : List Deferred) (W : World) (t : Array Value) (hF : Fr ⟨t, []⟩ 40 [(1, .pointer (some ⟨B0, 0, none⟩)), (2, .pointer (some ⟨B1, 0, none⟩)), (3, .int .i64 ((rd : Int)))]) (b0 : Blk W B0 44 [.func (.func 35) #[] #[.pointer (some ⟨VB, 0, none⟩)], .slice oa n oc]) (hO : W.ownsRow b 31 1 (.slice oa n oc) n (u32v V)) (hv : Vals bv W VB V) (hrd : rd < 2) :
    tlLoop.wpIn Fence.wide 9 Try.prog (TlP B0 B1 rd ds W) ⟨t, ds⟩ W := tl_round B0 B1 rd VB oa n oc b bv V hn hn2 ds W b0 hO hv hrd ⟨t, []⟩ hF
def TlE (B1 : Nat) (ds : List Deferred) (W : World) (e : Exit) (a : Act) (W' : World) : Prop := e = .exit 0 ∧ ∃ t, a = ⟨t, ds⟩ ∧ Fr ⟨t, []⟩ 40 [(2, .pointer (some ⟨B1, 0, none⟩))] ∧ W' = W
set_option maxHeartbeats 4000000 in
set_option maxRecDepth 100000 in
theorem tl_end (B0 B1 : Nat) (ds : List Deferred) (W : World) (a : Act) (hF : Fr a 40 [(1, .pointer (some ⟨B0, 0, none⟩)), (2, .pointer (some ⟨B1, 0, none⟩)), (3, .int .i64 (2))]) :
    tlLoop.wpIn Fence.wide 9 Try.prog (TlE B1 ds W) { a with defers := ds } W := by
  revert hF
  refine fun hF => frames40 (P := fun a => Fr a 40 [(1, .pointer (some ⟨B0, 0, none⟩)), (2, .pointer (some ⟨B1, 0, none⟩)), (3, .int .i64 2)] → tlLoop.wpIn Fence.wide 9 Try.prog (TlE B1 ds W) { a with defers := ds } W) ?_ a hF.1 hF.2.1 hF
  intro u0 u1 u2 u3 u4 u5 u6 u7 u8 u9 u10 u11 u12 u13 u14 u15 u16 u17 u18 u19 u20 u21 u22 u23 u24 u25 u26 u27 u28 u29 u30 u31 u32 u33 u34 u35 u36 u37 u38 u39 hF
  obtain rfl : u1 = .pointer (some ⟨B0, 0, none⟩) := hF.at_ 1 _ (by simp)
  obtain rfl : u2 = .pointer (some ⟨B1, 0, none⟩) := hF.at_ 2 _ (by simp)
  obtain rfl : u3 = .int .i64 2 := hF.at_ 3 _ (by simp)
  clear hF
  conv => arg 4; whnf
  dsimp only
  gi_wp2
  exact ⟨rfl, _, rfl, ⟨rfl, rfl, by simp⟩, rfl⟩
theorem tl_en (B0 B1 : Nat) (ds : List Deferred) (W : World) (t : Array Value) (hF : Fr ⟨t, []⟩ 40 [(1, .pointer (some ⟨B0, 0, none⟩)), (2, .pointer (some ⟨B1, 0, none⟩)), (3, .int .i64 (2))]) :
    tlLoop.wpIn Fence.wide 9 Try.prog (TlE B1 ds W) ⟨t, ds⟩ W := tl_end B0 B1 ds W ⟨t, []⟩ hF
set_option maxHeartbeats 4000000 in
set_option maxRecDepth 100000 in
/-- what is told, and is what is wanted -/
theorem tells_yes (VB : Nat) (oa : Option Addr) (n oc b bv : Nat) (V : List Nat) (hn : n = V.length) (hn2 : n ≤ 1000000) (w : World) (hO : w.ownsRow b 31 1 (.slice oa n oc) n (u32v V)) (hv : Vals bv w VB V) :
    Calls Try.prog 10 #[.agg #[.func (.func 35) #[] #[.pointer (some ⟨VB, 0, none⟩)], .slice oa n oc]] w fun e w' => e = .returned (.bool true) ∧ Keeps (fun _ => False) w w' := by
  refine (callsIn_wide (n := 9)).1 ?_
  refine callsIn_of_wp_marks Try.func10 rfl trivial ?_ rfl
  simp only [Try.ntmps10, List.size_toArray, List.length_cons, List.length_nil, Nat.reduceAdd, Nat.reduceSub, Array.replicate_succ, Array.replicate_zero, List.push_toArray, List.append_toArray, List.nil_append, List.cons_append]
  have heq := eq_seq #[.pointer (some ⟨VB, 0, none⟩)]
  have HO := Lib.hid hO
  have HV := Lib.hid hv
  have HNN := Lib.hid hn
  clear hO hv hn
  gi_wp2
  have hn := HNN.out
  have k1 := ((Keeps.refl (fun _ => False) w).alloc (.cells #[.func (.func 35) #[] #[.pointer (some ⟨VB, 0, none⟩)], .slice oa n oc] 44)).alloc (.cells #[.bool false] 4)
  have b0 := (Blk.new w 44 [.func (.func 35) #[] #[.pointer (some ⟨VB, 0, none⟩)], .slice oa n oc]).alloc (.cells #[.bool false] 4)
  have b1 := Blk.new (w.alloc (.cells #[.func (.func 35) #[] #[.pointer (some ⟨VB, 0, none⟩)], .slice oa n oc] 44)) 4 [.bool false]
  simp only [World.size_alloc] at b0 b1
  obtain ⟨B1, hB1⟩ : ∃ B1, B1 = w.heap.size + 1 := ⟨_, rfl⟩
  rw [← hB1] at b1
  obtain ⟨W, hW⟩ : ∃ W, W = (w.alloc (.cells #[.func (.func 35) #[] #[.pointer (some ⟨VB, 0, none⟩)], .slice oa n oc] 44)).alloc (.cells #[.bool false] 4) := ⟨_, rfl⟩
  have hO := owns_keeps HO.out k1 (fun _ _ h => h)
  have hv : Vals bv (((w.alloc (.cells #[.func (.func 35) #[] #[.pointer (some ⟨VB, 0, none⟩)], .slice oa n oc] 44)).alloc (.cells #[.bool false] 4))) VB V := HV.out.keeps k1 (fun _ h => h.elim)
  rw [← hB1, ← hW]
  rw [← hW] at k1 b0 b1 hO hv
  clear hW heq
  refine wpIn_loop_rounds 3 (?_ : tlLoop.wpIn _ _ _ _ _ _)
  refine wpIn_mono (tl_rd w.heap.size B1 0 VB oa n oc b bv V hn hn2 [] W _ (by exact ⟨rfl, rfl, by simp⟩) b0 hO hv (by omega)) ?_
  rintro e a1 W1 ⟨rfl, t1, D1, D2, rfl, hF1, w1, hD1, hD2, m1, m2⟩
  have q1 := Keeps.of_below0 w1
  refine wpIn_mono (tl_rd w.heap.size B1 1 VB oa n oc b bv V hn hn2 [coll D2, coll D1] W1 t1 hF1 (b0.keeps q1 (fun h => h)) (owns_keeps hO q1 (fun _ _ h => h)) (hv.keeps q1 (fun _ h => h.elim)) (by omega)) ?_
  rintro e a2 W2 ⟨rfl, t2, D3, D4, rfl, hF2, w2, hD3, hD4, m3, m4⟩
  refine wpIn_mono (tl_en w.heap.size B1 [coll D4, coll D3, coll D2, coll D1] W2 t2 hF2) ?_
  rintro e a4 W4 ⟨rfl, t4, rfl, hF4, rfl⟩
  have h4 : t4.getD 2 undef = .pointer (some ⟨B1, 0, none⟩) := hF4.2.2 (2, _) (by simp)
  have h4' : t4[2]?.getD undef = .pointer (some ⟨B1, 0, none⟩) := by simpa using h4
  have q2 := q1.trans (Keeps.of_below0 w2)
  have b1' := b1.keeps q2 (fun h => h)
  have c1 := b1'.cell 0
  have f1 := b1'.frozen 0
  simp only [List.getElem?_cons_zero] at c1
  have l1 := (Array.getElem?_eq_some_iff.1 m1).1
  have l2 := (Array.getElem?_eq_some_iff.1 m2).1
  have l3 := (Array.getElem?_eq_some_iff.1 m3).1
  have l4 := (Array.getElem?_eq_some_iff.1 m4).1
  have zz := w2.size
  have zw := w1.size
  have hBW := b1.lt
  have n2 : W4.heap[D2]? = some (.deferred (some [])) := ((Keeps.of_below0 w2).block D2 l2 (fun h => h)).trans m2
  have n1 : W4.heap[D1]? = some (.deferred (some [])) := ((Keeps.of_below0 w2).block D1 l1 (fun h => h)).trans m1
  have HX := Lib.hid (And.intro b1' (And.intro (k1.trans q2) (And.intro n1 (And.intro n2 (And.intro m3 m4)))))
  have HL := Lib.hid (show W.heap.size ≤ D1 ∧ D1 < D2 ∧ D2 < D3 ∧ D3 < D4 ∧ D4 < W4.heap.size ∧ B1 < D1 ∧ w.heap.size < B1 + 1 from ⟨hD1, hD2, by omega, hD4, l4, by omega, by omega⟩)
  clear b0 b1 hF1 hF2 hF4 hO hv b1' m1 m2 m3 m4 n1 n2 l1 l2 l3 l4 zz zw hBW hD1 hD2 hD3 hD4 w1 w2 k1 q1 q2 hB1 hn hn2
  gi_wp2
  obtain ⟨b1', kq, n1, n2, m3, m4⟩ := HX.out
  obtain ⟨g1, g2, g3, g4, g5, g6, g7⟩ := HL.out
  have bb := b1'.set_ 0 (.bool true)
  have s0 : Keeps (fun k => k = B1) W4 (W4.setCell ⟨B1, 0, none⟩ (.bool true)) := Keeps.setCell (S := fun k => k = B1) (Keeps.refl _ W4) (p := ⟨B1, 0, none⟩) (fun _ => rfl) _
  have r4 := (s0.block D4 (by omega) (by omega)).trans m4
  have r3 := (s0.block D3 (by omega) (by omega)).trans m3
  have r2 := (s0.block D2 (by omega) (by omega)).trans n2
  have r1 := (s0.block D1 (by omega) (by omega)).trans n1
  obtain ⟨Ws, hWs⟩ : ∃ Ws, Ws = W4.setCell ⟨B1, 0, none⟩ (.bool true) := ⟨_, rfl⟩
  rw [← hWs] at bb s0 r1 r2 r3 r4 ⊢
  have zs := s0.size
  have p4 := keeps_putObj Ws D4 (.deferred none)
  have v3 := (p4.block D3 (by omega) (by omega)).trans r3
  have v2 := (p4.block D2 (by omega) (by omega)).trans r2
  have v1 := (p4.block D1 (by omega) (by omega)).trans r1
  have y4 := p4.size
  have p3 := keeps_putObj (Ws.putObj D4 (.deferred none)) D3 (.deferred none)
  have x2 := (p3.block D2 (by omega) (by omega)).trans v2
  have x1 := (p3.block D1 (by omega) (by omega)).trans v1
  have y3 := p3.size
  have p2 := keeps_putObj ((Ws.putObj D4 (.deferred none)).putObj D3 (.deferred none)) D2 (.deferred none)
  have z1 := (p2.block D1 (by omega) (by omega)).trans x1
  have y2 := p2.size
  have p1 := keeps_putObj (((Ws.putObj D4 (.deferred none)).putObj D3 (.deferred none)).putObj D2 (.deferred none)) D1 (.deferred none)
  have bf := (((bb.keeps p4 (by omega)).keeps p3 (by omega)).keeps p2 (by omega)).keeps p1 (by omega)
  have cf := bf.cell 0
  have kk := ((((kq.then s0 (fun i hi e => by omega)).then p4 (fun i hi e => by omega)).then p3 (fun i hi e => by omega)).then p2 (fun i hi e => by omega)).then p1 (fun i hi e => by omega)
  refine ⟨by simp, .inl ⟨_, _, rfl, run_takeDeferred r4, ?_⟩⟩
  refine ⟨by simp, .inl ⟨_, _, rfl, run_takeDeferred v3, ?_⟩⟩
  refine ⟨by simp, .inl ⟨_, _, rfl, run_takeDeferred x2, ?_⟩⟩
  refine ⟨by simp, .inl ⟨_, _, rfl, run_takeDeferred z1, ?_⟩⟩
  refine ⟨.bool true, ?_, rfl, kk⟩
  simp [results, go_sem, h4', cf]
end Gx
end Go.Proofs.Ytdbpfbokfmpgcaa
