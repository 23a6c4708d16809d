/-
FiL: plain: the boxes as one list, what is told of them; no program in sight.
FiG: the finder: the grid by the list of the boxes.
-/
import Derived.Test.YtdbpfbokfmpgcaaGreatZabGrAGsPFiQGrBGrCGrDGrE
import Derived.Test.YtdbpfbokfmpgcaaGreatZayFiP
import Derived.Test.YtdbpfbokfmpgcaaGreatZaxGsYGsZGtAGtB
import Derived.Test.YtdbpfbokfmpgcaaGreatZbgTrZTrPTrQ
import Derived.Test.YtdbpfbokfmpgcaaGreatZbiFiF
namespace Go.Proofs.YtdbpfbokfmpgcaaGreat
open Go.RowKit Go.Shelf
set_option linter.unusedVariables false
set_option linter.unusedSimpArgs false
set_option linter.ambiguousOpen false
namespace Fi
open Mem Gr Gs
/-- what is to be told: the numbers of the boxes that are taken, rising -/
def Ans (L : List (Nat × Bx)) (tk : Bx → Prop) (V : List Nat) : Prop := V.Pairwise (· < ·) ∧ ∀ id, id ∈ V ↔ ∃ b, (id, b) ∈ L ∧ tk b
theorem rise_ext : ∀ {A B : List Nat}, A.Pairwise (· < ·) → B.Pairwise (· < ·) → (∀ x, x ∈ A ↔ x ∈ B) → A = B
  | [], [], _, _, _ => rfl
  | [], b :: B, _, _, h => by have := (h b).2 (by simp); simp at this
  | a :: A, [], _, _, h => by have := (h a).1 (by simp); simp at this
  | a :: A, b :: B, hA, hB, h => by
    have hA' := List.pairwise_cons.1 hA
    have hB' := List.pairwise_cons.1 hB
    have hab : a = b := by
      rcases List.mem_cons.1 ((h a).1 (by simp)) with e | h1
      · exact e
      · rcases List.mem_cons.1 ((h b).2 (by simp)) with e | h2
        · exact e.symm
        · have := hB'.1 a h1; have := hA'.1 b h2; omega
    subst hab
    rw [rise_ext hA'.2 hB'.2 fun x => ?_]
    constructor
    · intro hx
      rcases List.mem_cons.1 ((h x).1 (List.mem_cons_of_mem _ hx)) with e | h1
      · have := hA'.1 x hx; omega
      · exact h1
    · intro hx
      rcases List.mem_cons.1 ((h x).2 (List.mem_cons_of_mem _ hx)) with e | h1
      · have := hB'.1 x hx; omega
      · exact h1
section
variable {L : List (Nat × Bx)} {tk tk' : Bx → Prop} {U V : List Nat}
theorem Ans.one (h : Ans L tk U) (h' : Ans L tk V) : U = V := rise_ext h.1 h'.1 (fun x => (h.2 x).trans (h'.2 x).symm)
theorem Ans.congr (h : Ans L tk V) (e : ∀ id b, (id, b) ∈ L → (tk b ↔ tk' b)) : Ans L tk' V :=
  ⟨h.1, fun id => (h.2 id).trans ⟨fun ⟨b, hb, ht⟩ => ⟨b, hb, (e id b hb).1 ht⟩, fun ⟨b, hb, ht⟩ => ⟨b, hb, (e id b hb).2 ht⟩⟩⟩
theorem Ans.len (h : Ans L tk V) : V.length ≤ L.length := by
  have hn : V.Nodup := h.1.imp (fun h => by omega)
  have := hn.length_le_of_subset (l₂ := L.map (·.1)) (fun i hi => by
    obtain ⟨b, hb, _⟩ := (h.2 i).1 hi
    exact List.mem_map.2 ⟨(i, b), hb, rfl⟩)
  simpa using this
theorem Ans.sub (h : Ans L tk U) (h' : Ans L tk' V) (e : ∀ id b, (id, b) ∈ L → tk b → tk' b) : ∀ x ∈ U, x ∈ V := fun x hx => by
  obtain ⟨b, hb, ht⟩ := (h.2 x).1 hx
  exact (h'.2 x).2 ⟨b, hb, e x b hb ht⟩
end
/-- the boxes that an index holds -/
structure OkL (L : List (Nat × Bx)) : Prop where
  keys : (L.map (·.1)).Nodup
  right : ∀ p ∈ L, Right p.2
  len : L.length ≤ 65536
  ids : ∀ p ∈ L, p.1 < 4294967296
theorem OkL.nil : OkL [] := ⟨by simp, by simp, by simp, by simp⟩
def putF (L : List (Nat × Bx)) (id : Nat) (b : Bx) : Int × List (Nat × Bx) :=
  if ¬ Right b then (142, L) else if hasB L id = true then (140, L) else if 65536 ≤ L.length then (5, L) else (0, L ++ [(id, b)])
def delF (L : List (Nat × Bx)) (id : Nat) : Int × List (Nat × Bx) := if hasB L id = true then (0, delB id L) else (141, L)
theorem hasB_iff {L : List (Nat × Bx)} {id : Nat} : hasB L id = true ↔ ∃ b, (id, b) ∈ L := by
  unfold hasB
  rw [List.any_eq_true]
  constructor
  · rintro ⟨⟨i, b⟩, hp, e⟩
    have : i = id := by simpa using e
    subst this
    exact ⟨b, hp⟩
  · rintro ⟨b, hp⟩; exact ⟨_, hp, by simp⟩
theorem mem_delB {L : List (Nat × Bx)} {id : Nat} {p : Nat × Bx} : p ∈ delB id L ↔ p ∈ L ∧ p.1 ≠ id := by
  unfold delB
  rw [List.mem_filter]; simp
theorem OkL.put {L : List (Nat × Bx)} (h : OkL L) {id : Nat} (hid : id < 4294967296) (b : Bx) : OkL (putF L id b).2 := by
  unfold putF
  split
  · exact h
  · rename_i hb
    have hb : Right b := Classical.not_not.1 hb
    split
    · exact h
    · rename_i hh
      split
      · exact h
      · rename_i hl
        refine ⟨?_, fun p hp => ?_, by simp; omega, fun p hp => ?_⟩
        · rw [List.map_append, List.nodup_append]
          refine ⟨h.keys, by simp, ?_⟩
          intro a ha c hc
          simp at hc; subst hc
          rintro rfl
          obtain ⟨⟨i, x⟩, hp, e⟩ := List.mem_map.1 ha
          simp only at e
          subst e
          exact hh (hasB_iff.2 ⟨x, hp⟩)
        · rcases List.mem_append.1 hp with hp | hp
          · exact h.right p hp
          · simp at hp; subst hp; exact hb
        · rcases List.mem_append.1 hp with hp | hp
          · exact h.ids p hp
          · simp at hp; subst hp; exact hid
theorem OkL.del {L : List (Nat × Bx)} (h : OkL L) (id : Nat) : OkL (delF L id).2 := by
  unfold delF
  split
  · refine ⟨?_, fun p hp => h.right p (mem_delB.1 hp).1, Nat.le_trans (List.length_filter_le _ _) h.len, fun p hp => h.ids p (mem_delB.1 hp).1⟩
    exact h.keys.sublist ((List.filter_sublist (l := L)).map _)
  · exact h
theorem OkL.one {L : List (Nat × Bx)} (h : OkL L) {id : Nat} {a b : Bx} (ha : (id, a) ∈ L) (hb : (id, b) ∈ L) : a = b := by
  have hk := h.keys
  clear h
  induction L with
  | nil => cases ha
  | cons p L ih =>
    rw [List.map_cons, List.nodup_cons] at hk
    rcases List.mem_cons.1 ha with e1 | h1 <;> rcases List.mem_cons.1 hb with e2 | h2
    · rw [← e1] at e2; exact (Prod.mk.inj e2).2.symm
    · exact absurd (List.mem_map.2 ⟨_, h2, by rw [← e1]⟩) hk.1
    · exact absurd (List.mem_map.2 ⟨_, h1, by rw [← e2]⟩) hk.1
    · exact ih h1 h2 hk.2
/-! the tree's list -/
def toT (b : Bx) : Tree.Bx := ⟨b.x0, b.y0, b.x1, b.y1⟩
def Tw (L : List (Nat × Bx)) (T : List (Nat × Tree.Bx)) : Prop := ∀ id b, (id, toT b) ∈ T ↔ (id, b) ∈ L
theorem toT_of (t : Tree.Bx) : ∃ b, t = toT b := ⟨⟨t.x0, t.y0, t.x1, t.y1⟩, rfl⟩
theorem toT_inj {a b : Bx} (h : toT a = toT b) : a = b := by
  cases a; cases b; simp only [toT, Tree.Bx.mk.injEq] at h; simp only [Bx.mk.injEq]; exact h
theorem tw_has {L : List (Nat × Bx)} {T : List (Nat × Tree.Bx)} (h : Tw L T) (id : Nat) : Tree.hasL T id = hasB L id := by
  have : Tree.hasL T id = true ↔ hasB L id = true := by
    rw [Tree.hasL_iff, hasB_iff]
    constructor
    · rintro ⟨⟨i, t⟩, hp, rfl⟩
      obtain ⟨b, rfl⟩ := toT_of t
      exact ⟨b, (h _ _).1 hp⟩
    · rintro ⟨b, hb⟩
      exact ⟨_, (h _ _).2 hb, rfl⟩
  cases h1 : Tree.hasL T id <;> cases h2 : hasB L id <;> simp [h1, h2] at this ⊢
theorem tw_len {L : List (Nat × Bx)} {T : List (Nat × Tree.Bx)} (h : Tw L T) (hr : Tree.Rising T) : T.length ≤ L.length := by
  have hn : (T.map (·.1)).Nodup := by
    have : (T.map (·.1)).Pairwise (· < ·) := List.pairwise_map.2 (hr.imp (fun h => h))
    exact this.imp (fun h => by omega)
  have := hn.length_le_of_subset (l₂ := L.map (·.1)) (fun i hi => by
    obtain ⟨⟨j, t⟩, hp, rfl⟩ := List.mem_map.1 hi
    obtain ⟨b, rfl⟩ := toT_of t
    exact List.mem_map.2 ⟨(j, b), (h _ _).1 hp, rfl⟩)
  simpa using this
theorem tw_put {L : List (Nat × Bx)} {T : List (Nat × Tree.Bx)} (h : Tw L T) (id : Nat) (b : Bx) : Tw (L ++ [(id, b)]) (Tree.putL id (toT b) T) := by
  intro i x
  rw [Tree.putL_mem, List.mem_append, List.mem_singleton, Prod.mk.injEq, Prod.mk.injEq, h]
  constructor
  · rintro (⟨e1, e2⟩ | h1)
    · exact .inr ⟨e1, toT_inj e2⟩
    · exact .inl h1
  · rintro (h1 | ⟨e1, e2⟩)
    · exact .inr h1
    · exact .inl ⟨e1, by rw [e2]⟩
theorem tw_del {L : List (Nat × Bx)} {T : List (Nat × Tree.Bx)} (h : Tw L T) (id : Nat) : Tw (delB id L) (Tree.delL id T) := by
  intro i x
  unfold Tree.delL
  rw [List.mem_filter, mem_delB, h]
  simp
/-! what the indexes hand out holds all that is wanted -/
theorem tree_at {px py : Int} {b : Bx} (hb : Right b) (h : coversP px py b) : (toT b).meet ⟨px, py, px, py⟩ = true := by
  obtain ⟨_, _, h1, h2⟩ := hb
  obtain ⟨h3, h4, h5, h6⟩ := h
  simp only [Tree.Bx.meet, Tree.Bx.right, toT, Bool.and_eq_true, decide_eq_true_eq]
  refine ⟨⟨⟨⟨⟨⟨?_, ?_⟩, ?_, ?_⟩, ?_⟩, ?_⟩, ?_⟩, ?_⟩ <;> first | exact decide_eq_true (by omega) | omega
theorem tree_cr {px py qx qy : Int} {b : Bx} (hb : Right b) (h : meetsP px py qx qy b) : (toT b).meet ⟨min px qx, min py qy, max px qx, max py qy⟩ = true := by
  obtain ⟨_, _, h1, h2⟩ := hb
  obtain ⟨⟨h3, h4, h5, h6⟩, _⟩ := h
  simp only [Tree.Bx.meet, Tree.Bx.right, toT, Bool.and_eq_true, decide_eq_true_eq]
  refine ⟨⟨⟨⟨⟨⟨?_, ?_⟩, ?_, ?_⟩, ?_⟩, ?_⟩, ?_⟩, ?_⟩ <;> first | exact decide_eq_true (by omega) | omega
theorem covers_on {px py : Int} {b : Bx} (hb : Right b) (h : coversP px py b) : On px py := by
  obtain ⟨⟨a1, a2, a3, a4⟩, ⟨a5, a6, a7, a8⟩, _, _⟩ := hb
  obtain ⟨h3, h4, h5, h6⟩ := h
  exact ⟨by omega, by omega, by omega, by omega⟩
theorem covers_cell {s px py : Int} {b : Bx} (hs : Size s) (h : coversP px py b) : covers s b (cof s px py) := by
  obtain ⟨h3, h4, h5, h6⟩ := h
  obtain ⟨h1, _⟩ := hs
  have dv : ∀ a c : Int, a ≤ c → a / s ≤ c / s := fun a c h => Int.ediv_le_ediv (by omega) h
  exact ⟨dv _ _ h3, dv _ _ h4, dv _ _ h5, dv _ _ h6⟩
def inL (L : List (Nat × Bx)) (id : Nat) (b : Bx) : Prop := (id, b) ∈ L
theorem grid_at {s px py : Int} {L : List (Nat × Bx)} (hs : Size s) {id : Nat} {b : Bx} (hb : (id, b) ∈ L) (h : coversP px py b) : atT s (inL L) px py id :=
  ⟨b, hb, .inr (covers_cell hs h)⟩
theorem grid_cr {s px py qx qy : Int} {L : List (Nat × Bx)} (hs : Size s) {id : Nat} {b : Bx} (hr : Right b) (hb : (id, b) ∈ L) (h : meetsP px py qx qy b) : crT s (inL L) px py qx qy id :=
  ⟨b, hb, fun _ => .inr (meets_told hs hr h)⟩
end Fi
end Go.Proofs.YtdbpfbokfmpgcaaGreat
namespace Go.Proofs.YtdbpfbokfmpgcaaGreat
open Go.RowKit Go.Shelf
set_option linter.unusedVariables false
set_option linter.unusedSimpArgs false
set_option linter.ambiguousOpen false
attribute [local go_sem] Oper.semAt_some
namespace Fi
open Mem Gr Gs
/-- a list that a call of the grid tells -/
def Told (w w' : World) (V : List Nat) (e : Ending) : Prop := ∃ VB, e = .returned (.func (.func 92) #[] #[.pointer (some ⟨VB, 0, none⟩)]) ∧ Keeps (fun _ => False) w w' ∧ Vals w.heap.size w' VB V
theorem nil_vals {w W : World} (hk : Keeps (fun _ => False) w W) : Keeps (fun _ => False) w (W.alloc (.cells #[.slice none 0 0] 45)) ∧ Vals w.heap.size (W.alloc (.cells #[.slice none 0 0] 45)) W.heap.size [] :=
  ⟨hk.alloc _, hk.size, none, 0, Blk.new W 45 [.slice none 0 0], World.ownsRow_nil _ _ _ _⟩
theorem at_off_g (w : World) (G r1 r2 r3 : Nat) (s : Int) (L : List (Nat × Bx)) (A : List Nat) (M : List CE) (h : GridM w G r1 r2 r3 s L A M) (px py : Int) (hp : ¬ On px py) :
    Calls Tryz.prog 117 #[.pointer (some ⟨G, 0, none⟩), .agg #[.int .i32 px, .int .i32 py]] w fun e w' => Told w w' [] e := by
  have z := pin_t px py
  simp only [hp, decide_false] at z
  have HT := Lib.hid h
  clear h hp
  go_enter Tryz.func117, Tryz.ntmps117
  go_wp2_with (first
    | (go_at_call 122; refine (there_t _ (HT.out.blk.alloc _)).mono ?_; rintro e w1 ⟨rfl, rfl⟩)
    | (go_at_call 85; refine (z _).mono ?_; rintro e w4 ⟨rfl, hw⟩; have HK4 := Lib.hid (show Keeps (fun _ => False) w w4 from by rw [← hw]; (repeat (first | exact Keeps.refl _ _ | refine Keeps.alloc ?_ _ | refine Keeps.drew ?_))); clear hw)
    | (go_at_call 81; with_reducible refine (values_any _ _ _ _).mono ?_; rintro e w2 ⟨rfl, rfl⟩))
  go_ret
  exact ⟨_, rfl, nil_vals HK4.out⟩
theorem cross_off_g (w : World) (G r1 r2 r3 : Nat) (s : Int) (L : List (Nat × Bx)) (A : List Nat) (M : List CE) (h : GridM w G r1 r2 r3 s L A M) (px py qx qy : Int) (hm : ¬ (On px py ∧ On qx qy)) :
    Calls Tryz.prog 118 #[.pointer (some ⟨G, 0, none⟩), .agg #[.int .i32 px, .int .i32 py], .agg #[.int .i32 qx, .int .i32 qy]] w fun e w' => Told w w' [] e := by
  have z0 := fun W (hk : Keeps (fun _ => False) w W) => there_t W (h.blk.keeps hk (fun h => h))
  have z1 := pin_t px py
  have z2 := pin_t qx qy
  by_cases hp : On px py
  · have hq : ¬ On qx qy := fun h => hm ⟨hp, h⟩
    simp only [hp, hq, decide_true, decide_false] at z1 z2
    have HT := Lib.hid h
    clear h hp hq hm
    go_enter Tryz.func118, Tryz.ntmps118
    go_wp2_with (first
      | (go_at_call 122; refine (z0 _ (by (repeat (first | exact Keeps.refl _ _ | refine Keeps.alloc ?_ _ | refine Keeps.drew ?_)))).mono ?_; rintro e w1 ⟨rfl, rfl⟩)
      | (go_at_call 85; (with_reducible refine (z1 _).mono ?_); rintro e w1 ⟨rfl, rfl⟩)
      | (go_at_call 85; (with_reducible refine (z2 _).mono ?_); rintro e w4 ⟨rfl, hw⟩; have HK4 := Lib.hid (show Keeps (fun _ => False) w w4 from by rw [← hw]; (repeat (first | exact Keeps.refl _ _ | refine Keeps.alloc ?_ _ | refine Keeps.drew ?_))); clear hw)
      | (go_at_call 81; with_reducible refine (values_any _ _ _ _).mono ?_; rintro e w2 ⟨rfl, rfl⟩))
    go_ret
    exact ⟨_, rfl, nil_vals HK4.out⟩
  · simp only [hp, decide_false] at z1
    clear z2 hm hp
    go_enter Tryz.func118, Tryz.ntmps118
    go_wp2_with (first
      | (go_at_call 122; refine (z0 _ (by (repeat (first | exact Keeps.refl _ _ | refine Keeps.alloc ?_ _ | refine Keeps.drew ?_)))).mono ?_; rintro e w1 ⟨rfl, rfl⟩)
      | (go_at_call 85; (with_reducible refine (z1 _).mono ?_); rintro e w4 ⟨rfl, hw⟩; have HK4 := Lib.hid (show Keeps (fun _ => False) w w4 from by rw [← hw]; (repeat (first | exact Keeps.refl _ _ | refine Keeps.alloc ?_ _ | refine Keeps.drew ?_))); clear hw)
      | (go_at_call 81; with_reducible refine (values_any _ _ _ _).mono ?_; rintro e w2 ⟨rfl, rfl⟩))
    go_ret
    exact ⟨_, rfl, nil_vals HK4.out⟩
section
variable {w : World} {G : Nat} {s : Int} {L : List (Nat × Bx)} {n : Nat} {F : Nat → Prop}
/-- what a grid at least tells -/
theorem gd_at3 (h : Gd w G s (inL L) n F) (ho : OkL L) (hs : Size s) (hn : n ≤ 65536) (px py : Int) : Calls Tryz.prog 117 #[.pointer (some ⟨G, 0, none⟩), .agg #[.int .i32 px, .int .i32 py]] w fun e w' => ∃ V, Told w w' V e ∧ V.length ≤ 65536 ∧ ∀ id b, (id, b) ∈ L → coversP px py b → id ∈ V := by
  by_cases hp : On px py
  · refine Calls.mono (gd_at w G s hs _ n F h hn px py hp) ?_
    rintro e w' ⟨VB, V, rfl, g1, g2, g3, _, g5⟩
    refine ⟨V, ⟨VB, rfl, g1, g2⟩, ?_, fun id b hb hc => (g5 id).2 (grid_at hs hb hc)⟩
    obtain ⟨r1, r2, r3, L0, A, M, h1, h2, h3, h4⟩ := h
    have := told_len h2 g3 (fun id hi => by obtain ⟨b, hb, _⟩ := (g5 id).1 hi; exact ⟨b, hb⟩)
    omega
  · obtain ⟨r1, r2, r3, L', A, M, h1, h2, h3, h4⟩ := h
    refine Calls.mono (at_off_g w G r1 r2 r3 s L' A M h1 px py hp) ?_
    intro e w' ht
    exact ⟨[], ht, by simp, fun id b hb hc => absurd (covers_on (ho.right _ hb) hc) hp⟩
theorem gd_cr3 (h : Gd w G s (inL L) n F) (ho : OkL L) (hs : Size s) (hn : n ≤ 65536) (px py qx qy : Int) : Calls Tryz.prog 118 #[.pointer (some ⟨G, 0, none⟩), .agg #[.int .i32 px, .int .i32 py], .agg #[.int .i32 qx, .int .i32 qy]] w fun e w' => ∃ V, Told w w' V e ∧ V.length ≤ 65536 ∧ ∀ id b, (id, b) ∈ L → On px py → On qx qy → meetsP px py qx qy b → id ∈ V := by
  by_cases hp : On px py ∧ On qx qy
  · refine Calls.mono (gd_cross w G s hs _ n F h hn px py qx qy hp.1 hp.2) ?_
    rintro e w' ⟨VB, V, rfl, g1, g2, g3, _, g5⟩
    refine ⟨V, ⟨VB, rfl, g1, g2⟩, ?_, fun id b hb _ _ hc => (g5 id).2 (grid_cr hs (ho.right _ hb) hb hc)⟩
    obtain ⟨r1, r2, r3, L0, A, M, h1, h2, h3, h4⟩ := h
    have := told_len h2 g3 (fun id hi => by obtain ⟨b, hb, _⟩ := (g5 id).1 hi; exact ⟨b, hb⟩)
    omega
  · obtain ⟨r1, r2, r3, L', A, M, h1, h2, h3, h4⟩ := h
    refine Calls.mono (cross_off_g w G r1 r2 r3 s L' A M h1 px py qx qy hp) ?_
    intro e w' ht
    exact ⟨[], ht, by simp, fun id b _ h1 h2 _ => absurd ⟨h1, h2⟩ hp⟩
theorem gd_tight (h : Gd w G s (inL L) n F) : Gd w G s (inL L) L.length F := by
  obtain ⟨r1, r2, r3, L0, A, M, h1, h2, h3, h4⟩ := h
  refine ⟨r1, r2, r3, L0, A, M, h1, h2, ?_, h4⟩
  have hn : (L0.map (·.1)).Nodup := h2.keysL
  have := hn.length_le_of_subset (l₂ := L.map (·.1)) (fun i hi => by
    obtain ⟨⟨j, b⟩, hp, rfl⟩ := List.mem_map.1 hi
    exact List.mem_map.2 ⟨(j, b), (h2.setL _ _).1 hp, rfl⟩)
  simpa using this
theorem gd_put3 (h : Gd w G s (inL L) n F) (hs : Size s) (hn : n ≤ 65536) (id : Nat) (b : Bx) (hb : Right b) (hh : hasB L id = false) :
    Calls Tryz.prog 121 #[.pointer (some ⟨G, 0, none⟩), .int .u32 (id : Int), .agg #[.int .i32 b.x0, .int .i32 b.y0, .int .i32 b.x1, .int .i32 b.y1]] w fun e w' => e = .returned (.int .i64 0) ∧ ∃ F', Gd w' G s (inL (L ++ [(id, b)])) (L ++ [(id, b)]).length F' ∧ Keeps F w w' ∧ ∀ k, F' k → F k ∨ w.heap.size ≤ k := by
  have hno : ∀ x, ¬ inL L id x := fun x hx => by rw [hasB_iff.2 ⟨x, hx⟩] at hh; cases hh
  obtain ⟨r1, r2, r3, L0, A, M, h1, h2, h3, h4⟩ := h
  refine Calls.mono (put_t w G r1 r2 r3 s hs L0 A M h1 (fun e he => by have := ids_le h2 e he; omega) (fun a ha => by obtain ⟨x, hx, _⟩ := (h2.apart a).1 ha; exact (hasB_S h2 a).2 ⟨x, hx⟩) id b) ?_
  rintro e w' ⟨L', A', M', rfl, g1, g2, g3, g4⟩
  have h0 : ¬ hasB L0 id = true := fun e => by obtain ⟨x, hx⟩ := (hasB_S h2 id).1 e; exact hno x hx
  refine ⟨by unfold putE; simp [hb, h0], FpG r1 r2 r3 M', gd_tight (n := L'.length) ⟨r1, r2, r3, L', A', M', g1, (h2.put id b hno g2).congr (fun i x => ?_), Nat.le_refl _, fun _ => Iff.rfl⟩, g3.mono (fun k _ hk => (h4 k).2 hk), ?_⟩
  · unfold inL
    rw [List.mem_append, List.mem_singleton, Prod.mk.injEq]
    simp [hb]
  · rintro k (e | e | e | e)
    · exact .inl ((h4 k).2 (.inl e))
    · exact .inl ((h4 k).2 (.inr (.inl e)))
    · exact .inl ((h4 k).2 (.inr (.inr (.inl e))))
    · exact (g4 k e).imp_left fun h => (h4 k).2 (.inr (.inr (.inr h)))
theorem gd_del3 (h : Gd w G s (inL L) n F) (hs : Size s) (id : Nat) (hh : hasB L id = true) :
    Calls Tryz.prog 119 #[.pointer (some ⟨G, 0, none⟩), .int .u32 (id : Int)] w fun e w' => e = .returned (.int .i64 0) ∧ ∃ F', Gd w' G s (inL (delB id L)) (delB id L).length F' ∧ Keeps F w w' ∧ ∀ k, F' k → F k ∨ w.heap.size ≤ k := by
  obtain ⟨b, hp⟩ := hasB_iff.1 hh
  refine Calls.mono (gd_del w G s hs _ n F h id b hp) ?_
  rintro e w' ⟨rfl, F', g1, g2, g3⟩
  exact ⟨rfl, F', gd_tight (g1.congr (fun j x => by unfold inL; rw [mem_delB])), g2, fun k hk => .inl (g3 k hk)⟩
theorem gd_len3 (h : Gd w G s (inL L) n F) (ho : OkL L) (W : World) (hk : Keeps (fun _ => False) w W) : Calls Tryz.prog 120 #[.pointer (some ⟨G, 0, none⟩)] W fun e w' => e = .returned (.int .i64 (L.length : Int)) ∧ W = w' := by
  have hle := gd_tight h
  obtain ⟨r1, r2, r3, L0, A, M, h1, h2, h3, h4⟩ := h
  have hl : L0.length = L.length := by
    have hn0 : (L0.map (·.1)).Nodup := h2.keysL
    have a1 := hn0.length_le_of_subset (l₂ := L.map (·.1)) (fun i hi => by
      obtain ⟨⟨j, b⟩, hp, rfl⟩ := List.mem_map.1 hi
      exact List.mem_map.2 ⟨(j, b), (h2.setL _ _).1 hp, rfl⟩)
    have a2 := ho.keys.length_le_of_subset (l₂ := L0.map (·.1)) (fun i hi => by
      obtain ⟨⟨j, b⟩, hp, rfl⟩ := List.mem_map.1 hi
      exact List.mem_map.2 ⟨(j, b), (h2.setL _ _).2 hp, rfl⟩)
    simp at a1 a2; omega
  rw [← hl]
  exact len_t W G r1 r2 r3 s L0 A M (h1.kd hk)
end
end Fi
end Go.Proofs.YtdbpfbokfmpgcaaGreat
