/-
HxK: the grid's answers, by the document's list.
-/
import Derived.Test.YtdbpfbokfmpgcaaZbfHxAHxBHxCHxP
import Derived.Test.YtdbpfbokfmpgcaaZbcGrKGrL
namespace Go.Proofs.Ytdbpfbokfmpgcaa
open Go.RowKit Go.Shelf
set_option linter.unusedVariables false
set_option linter.unusedSimpArgs false
set_option linter.ambiguousOpen false
attribute [local go_sem] Oper.semAt_some
namespace Gx
open Mem Gr Gs
theorem apart_t (w : World) (G r1 r2 r3 : Nat) (s : Int) (L : List (Nat × Bx)) (A : List Nat) (M : List CE) (h : GridM w G r1 r2 r3 s L A M) : Calls Try.prog 28 #[.pointer (some ⟨G, 0, none⟩)] w fun e w' => e = .returned (.int .i64 (A.length : Int)) ∧ w = w' := by
  have hl := h.m3.len (P := Try.prog) Try.underlying50
  simp only [kvA, List.length_map] at hl
  have HT := Lib.hid h.blk
  have cG := h.blk.cell
  clear h
  go_enter Try.func28, Try.ntmps28
  go_wp2_with (go_at_call 14; refine (there_t _ HT.out).mono ?_; rintro e w1 ⟨rfl, rfl⟩)
  go_ret
  exact ⟨rfl, rfl⟩
/-- a list that a call of the grid tells -/
def Told (w w' : World) (V : List Nat) (e : Ending) : Prop := ∃ VB, e = .returned (.func (.func 35) #[] #[.pointer (some ⟨VB, 0, none⟩)]) ∧ Keeps (fun _ => False) w w' ∧ Vals w.heap.size w' VB V
theorem nil_vals {w W : World} (hk : Keeps (fun _ => False) w W) : Keeps (fun _ => False) w (W.alloc (.cells #[.slice none 0 0] 41)) ∧ Vals w.heap.size (W.alloc (.cells #[.slice none 0 0] 41)) W.heap.size [] :=
  ⟨hk.alloc _, hk.size, none, 0, Blk.new W 41 [.slice none 0 0], World.ownsRow_nil _ _ _ _⟩
theorem at_off_g (w : World) (G r1 r2 r3 : Nat) (s : Int) (L : List (Nat × Bx)) (A : List Nat) (M : List CE) (h : GridM w G r1 r2 r3 s L A M) (px py : Int) (hp : ¬ On px py) :
    Calls Try.prog 7 #[.pointer (some ⟨G, 0, none⟩), .agg #[.int .i32 px, .int .i32 py]] w fun e w' => Told w w' [] e := by
  have z := pin_t px py
  simp only [hp, decide_false] at z
  have HT := Lib.hid h
  clear h hp
  go_enter Try.func7, Try.ntmps7
  go_wp2_with (first
    | (go_at_call 14; refine (there_t _ (HT.out.blk.alloc _)).mono ?_; rintro e w1 ⟨rfl, rfl⟩)
    | (go_at_call 15; refine (z _).mono ?_; rintro e w4 ⟨rfl, hw⟩; have HK4 := Lib.hid (show Keeps (fun _ => False) w w4 from by rw [← hw]; (repeat (first | exact Keeps.refl _ _ | refine Keeps.alloc ?_ _ | refine Keeps.drew ?_))); clear hw)
    | (go_at_call 16; with_reducible refine (values_any _ _ _ _).mono ?_; rintro e w2 ⟨rfl, rfl⟩))
  go_ret
  exact ⟨_, rfl, nil_vals HK4.out⟩
theorem cross_off_g (w : World) (G r1 r2 r3 : Nat) (s : Int) (L : List (Nat × Bx)) (A : List Nat) (M : List CE) (h : GridM w G r1 r2 r3 s L A M) (px py qx qy : Int) (hm : ¬ (On px py ∧ On qx qy)) :
    Calls Try.prog 26 #[.pointer (some ⟨G, 0, none⟩), .agg #[.int .i32 px, .int .i32 py], .agg #[.int .i32 qx, .int .i32 qy]] w fun e w' => Told w w' [] e := by
  have z0 := fun W (hk : Keeps (fun _ => False) w W) => there_t W (h.blk.keeps hk (fun h => h))
  have z1 := pin_t px py
  have z2 := pin_t qx qy
  by_cases hp : On px py
  · have hq : ¬ On qx qy := fun h => hm ⟨hp, h⟩
    simp only [hp, hq, decide_true, decide_false] at z1 z2
    have HT := Lib.hid h
    clear h hp hq hm
    go_enter Try.func26, Try.ntmps26
    go_wp2_with (first
      | (go_at_call 14; refine (z0 _ (by (repeat (first | exact Keeps.refl _ _ | refine Keeps.alloc ?_ _ | refine Keeps.drew ?_)))).mono ?_; rintro e w1 ⟨rfl, rfl⟩)
      | (go_at_call 15; (with_reducible refine (z1 _).mono ?_); rintro e w1 ⟨rfl, rfl⟩)
      | (go_at_call 15; (with_reducible refine (z2 _).mono ?_); rintro e w4 ⟨rfl, hw⟩; have HK4 := Lib.hid (show Keeps (fun _ => False) w w4 from by rw [← hw]; (repeat (first | exact Keeps.refl _ _ | refine Keeps.alloc ?_ _ | refine Keeps.drew ?_))); clear hw)
      | (go_at_call 16; with_reducible refine (values_any _ _ _ _).mono ?_; rintro e w2 ⟨rfl, rfl⟩))
    go_ret
    exact ⟨_, rfl, nil_vals HK4.out⟩
  · simp only [hp, decide_false] at z1
    clear z2 hm hp
    go_enter Try.func26, Try.ntmps26
    go_wp2_with (first
      | (go_at_call 14; refine (z0 _ (by (repeat (first | exact Keeps.refl _ _ | refine Keeps.alloc ?_ _ | refine Keeps.drew ?_)))).mono ?_; rintro e w1 ⟨rfl, rfl⟩)
      | (go_at_call 15; (with_reducible refine (z1 _).mono ?_); rintro e w4 ⟨rfl, hw⟩; have HK4 := Lib.hid (show Keeps (fun _ => False) w w4 from by rw [← hw]; (repeat (first | exact Keeps.refl _ _ | refine Keeps.alloc ?_ _ | refine Keeps.drew ?_))); clear hw)
      | (go_at_call 16; with_reducible refine (values_any _ _ _ _).mono ?_; rintro e w2 ⟨rfl, rfl⟩))
    go_ret
    exact ⟨_, rfl, nil_vals HK4.out⟩
/-! by the list -/
def wantAt (s px py : Int) (L : List (Nat × Bx)) : List Nat := if On px py then atL s px py L else []
def wantCr (s px py qx qy : Int) (L : List (Nat × Bx)) : List Nat := if On px py ∧ On qx qy then crL s px py qx qy L else []
theorem Rise.at {L : List (Nat × Bx)} (h : Rise L) (s px py : Int) : (atL s px py L).Pairwise (· < ·) := h.filt _
theorem Rise.cr {L : List (Nat × Bx)} (h : Rise L) (s px py qx qy : Int) : (crL s px py qx qy L).Pairwise (· < ·) := h.filt _
section
variable {w : World} {G : Nat} {s : Int} {L : List (Nat × Bx)} {n : Nat} {F : Nat → Prop}
theorem gd_at2 (h : Gd w G s (inList L) n F) (hr : Rise L) (hs : Size s) (hn : n ≤ 65536) (px py : Int) : Calls Try.prog 7 #[.pointer (some ⟨G, 0, none⟩), .agg #[.int .i32 px, .int .i32 py]] w fun e w' => Told w w' (wantAt s px py L) e := by
  unfold wantAt
  by_cases hp : On px py
  · rw [if_pos hp]
    refine Calls.mono (gd_at w G s hs _ n F h hn px py hp) ?_
    rintro e w' ⟨VB, V, rfl, g1, g2, g3, _, g5⟩
    have e1 : V = atL s px py L := rise_eq g3 (hr.at s px py) (fun id => (g5 id).trans mem_atL.symm)
    subst e1
    exact ⟨VB, rfl, g1, g2⟩
  · rw [if_neg hp]
    obtain ⟨r1, r2, r3, L', A, M, h1, h2, h3, h4⟩ := h
    exact at_off_g w G r1 r2 r3 s L' A M h1 px py hp
theorem gd_cross2 (h : Gd w G s (inList L) n F) (hr : Rise L) (hs : Size s) (hn : n ≤ 65536) (px py qx qy : Int) : Calls Try.prog 26 #[.pointer (some ⟨G, 0, none⟩), .agg #[.int .i32 px, .int .i32 py], .agg #[.int .i32 qx, .int .i32 qy]] w fun e w' => Told w w' (wantCr s px py qx qy L) e := by
  unfold wantCr
  by_cases hp : On px py ∧ On qx qy
  · rw [if_pos hp]
    refine Calls.mono (gd_cross w G s hs _ n F h hn px py qx qy hp.1 hp.2) ?_
    rintro e w' ⟨VB, V, rfl, g1, g2, g3, _, g5⟩
    have e1 : V = crL s px py qx qy L := rise_eq g3 (hr.cr s px py qx qy) (fun id => (g5 id).trans mem_crL.symm)
    subst e1
    exact ⟨VB, rfl, g1, g2⟩
  · rw [if_neg hp]
    obtain ⟨r1, r2, r3, L', A, M, h1, h2, h3, h4⟩ := h
    exact cross_off_g w G r1 r2 r3 s L' A M h1 px py qx qy hp
/-- what Put answers, and what there is behind it -/
def hasId (L : List (Nat × Bx)) (id : Nat) : Prop := ∃ p ∈ L, p.1 = id
instance (L : List (Nat × Bx)) (id : Nat) : Decidable (hasId L id) := by unfold hasId; infer_instance
def putV (id : Nat) (b : Bx) (L : List (Nat × Bx)) : Int := if ¬ Right b then 142 else if hasId L id then 140 else 0
def putN (id : Nat) (b : Bx) (L : List (Nat × Bx)) : List (Nat × Bx) := if ¬ Right b then L else if hasId L id then L else insB id b L
def delV (id : Nat) (L : List (Nat × Bx)) : Int := if hasId L id then 0 else 141
theorem hasB_id {L0 : List (Nat × Bx)} {A : List Nat} {C : Cm} {L' : List (Nat × Bx)} (h : GI s (inList L0) L' A C) (id : Nat) : hasB L' id = true ↔ hasId L0 id := by
  rw [hasB_S h]
  unfold hasId inList
  constructor
  · rintro ⟨b, hb⟩; exact ⟨_, hb, rfl⟩
  · rintro ⟨⟨i, b⟩, hb, rfl⟩; exact ⟨b, hb⟩
theorem gd_put2 (h : Gd w G s (inList L) n F) (hs : Size s) (hn : n ≤ 65536) (id : Nat) (b : Bx) :
    Calls Try.prog 12 #[.pointer (some ⟨G, 0, none⟩), .int .u32 (id : Int), .agg #[.int .i32 b.x0, .int .i32 b.y0, .int .i32 b.x1, .int .i32 b.y1]] w fun e w' => e = .returned (.int .i64 (putV id b L)) ∧ ∃ F', Gd w' G s (inList (putN id b L)) (n + 1) F' ∧ Keeps F w w' ∧ ∀ k, F' k → F k ∨ w.heap.size ≤ k := by
  obtain ⟨r1, r2, r3, L0, A, M, h1, h2, h3, h4⟩ := h
  refine Calls.mono (put_t w G r1 r2 r3 s hs L0 A M h1 (fun e he => by have := ids_le h2 e he; omega) (fun a ha => by obtain ⟨x, hx, _⟩ := (h2.apart a).1 ha; exact (hasB_S h2 a).2 ⟨x, hx⟩) id b) ?_
  rintro e w' ⟨L', A', M', rfl, g1, g2, g3, g4⟩
  have ev : putE id b L0 = putV id b L := by
    unfold putE putV
    by_cases hb : Right b
    · by_cases hh : hasId L id
      · simp [hb, hh, (hasB_id h2 id).2 hh]
      · have : ¬ hasB L0 id = true := fun e => hh ((hasB_id h2 id).1 e)
        simp [hb, hh, this]
    · simp [hb]
  refine ⟨by rw [ev], FpG r1 r2 r3 M', ⟨r1, r2, r3, L', A', M', g1, ?_, ?_, fun _ => Iff.rfl⟩, g3.mono (fun k _ hk => (h4 k).2 hk), ?_⟩
  · unfold putN
    by_cases hb : Right b
    · by_cases hh : hasId L id
      · rw [if_neg (by simpa using hb), if_pos hh]
        have e1 := (hasB_id h2 id).2 hh
        unfold putS at g2
        rw [if_neg (by simpa using hb), if_pos e1] at g2
        simp only [Prod.mk.injEq] at g2
        obtain ⟨rfl, rfl, e3⟩ := g2
        rw [e3]; exact h2
      · rw [if_neg (by simpa using hb), if_neg hh]
        refine (h2.put id b (fun x hx => hh ⟨_, hx, rfl⟩) g2).congr (fun i x => ?_)
        unfold inList
        rw [mem_insB, Prod.mk.injEq]
        simp [hb]
    · rw [if_pos hb]
      unfold putS at g2
      rw [if_pos hb] at g2
      simp only [Prod.mk.injEq] at g2
      obtain ⟨rfl, rfl, e3⟩ := g2
      rw [e3]; exact h2
  · have hL : L' = L0 ∨ L' = L0 ++ [(id, b)] := by
      unfold putS at g2
      split at g2
      · exact .inl (Prod.mk.inj g2).1
      · split at g2
        · exact .inl (Prod.mk.inj g2).1
        · split at g2
          · exact .inr (Prod.mk.inj g2).1
          · exact .inr (Prod.mk.inj g2).1
    rcases hL with e | e <;> rw [e]
    · omega
    · simp; omega
  · rintro k (e | e | e | e)
    · exact .inl ((h4 k).2 (.inl e))
    · exact .inl ((h4 k).2 (.inr (.inl e)))
    · exact .inl ((h4 k).2 (.inr (.inr (.inl e))))
    · exact (g4 k e).imp_left fun h => (h4 k).2 (.inr (.inr (.inr h)))
theorem delB_none {L : List (Nat × Bx)} {id : Nat} (h : ¬ hasId L id) : delB id L = L := by
  unfold delB
  rw [List.filter_eq_self]
  intro p hp
  simp only [decide_eq_true_eq, ne_eq]
  first | exact fun e => h ⟨p, hp, e⟩ | (have := fun e => h ⟨p, hp, e⟩; simpa using this)
theorem gd_del2 (h : Gd w G s (inList L) n F) (hs : Size s) (id : Nat) :
    Calls Try.prog 24 #[.pointer (some ⟨G, 0, none⟩), .int .u32 (id : Int)] w fun e w' => e = .returned (.int .i64 (delV id L)) ∧ ∃ F', Gd w' G s (inList (delB id L)) n F' ∧ Keeps F w w' ∧ ∀ k, F' k → F k ∨ w.heap.size ≤ k := by
  unfold delV
  by_cases hh : hasId L id
  · rw [if_pos hh]
    obtain ⟨⟨i, b⟩, hp, rfl⟩ := hh
    refine Calls.mono (gd_del w G s hs _ n F h i b hp) ?_
    rintro e w' ⟨rfl, F', g1, g2, g3⟩
    refine ⟨rfl, F', g1.congr (fun j x => ?_), g2, fun k hk => .inl (g3 k hk)⟩
    unfold inList delB
    rw [List.mem_filter]; simp
  · rw [if_neg hh, delB_none hh]
    obtain ⟨r1, r2, r3, L0, A, M, h1, h2, h3, h4⟩ := h
    have hb : hasB L0 id = false := by
      cases hx : hasB L0 id
      · rfl
      · exact absurd ((hasB_id h2 id).1 hx) hh
    refine Calls.mono (del_gone w G r1 r2 r3 s L0 A M h1 id hb) ?_
    rintro e w' ⟨M', rfl, g1, g2, g3, g4⟩
    refine ⟨rfl, FpG r1 r2 r3 M', ⟨r1, r2, r3, L0, A, M', g1, by rw [g2]; exact h2, h3, fun _ => Iff.rfl⟩, g3.mono (fun k _ hk => (h4 k).2 hk), ?_⟩
    rintro k (e | e | e | e)
    · exact .inl ((h4 k).2 (.inl e))
    · exact .inl ((h4 k).2 (.inr (.inl e)))
    · exact .inl ((h4 k).2 (.inr (.inr (.inl e))))
    · exact .inl ((h4 k).2 (.inr (.inr (.inr (g4 k e)))))
/-- the three numbers -/
theorem gd_books (h : Gd w G s (inList L) n F) (hr : Rise L) : (∀ W, Keeps (fun _ => False) w W → Calls Try.prog 13 #[.pointer (some ⟨G, 0, none⟩)] W fun e w' => e = .returned (.int .i64 (L.length : Int)) ∧ W = w')
    ∧ (∀ W, Keeps (fun _ => False) w W → Calls Try.prog 28 #[.pointer (some ⟨G, 0, none⟩)] W fun e w' => e = .returned (.int .i64 ((farL s L).length : Int)) ∧ W = w')
    ∧ (∀ W, Keeps (fun _ => False) w W → Calls Try.prog 30 #[.pointer (some ⟨G, 0, none⟩)] W fun e w' => e = .returned (.int .i64 ((allC s [] L).length : Int)) ∧ W = w') := by
  obtain ⟨r1, r2, r3, L0, A, M, h1, h2, h3, h4⟩ := h
  refine ⟨fun W hk => ?_, fun W hk => ?_, fun W hk => ?_⟩
  · rw [← list_len hr h2]; exact len_t W G r1 r2 r3 s L0 A M (h1.kd hk)
  · rw [← apart_len hr h2]; exact apart_t W G r1 r2 r3 s L0 A M (h1.kd hk)
  · rw [← cells_len h2]; exact cells_t W G r1 r2 r3 s L0 A M (h1.kd hk)
end
end Gx
end Go.Proofs.Ytdbpfbokfmpgcaa
