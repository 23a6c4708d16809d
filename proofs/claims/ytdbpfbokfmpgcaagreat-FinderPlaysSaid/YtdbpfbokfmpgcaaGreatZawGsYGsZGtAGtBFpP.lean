/-
GsY: New at any size; ways.
GsZ: the law of a grid, plain: what a set of boxes makes it hold.
GtA: of lines and boxes, plain.
GtB: a grid that holds just the boxes of a set, and its calls.
FpP: plain: a way meets a box just if the box covers an end of it, or a side of it meets the way, as the document reckons.
-/
import Derived.Test.YtdbpfbokfmpgcaaGreatZavGrJGsUGsVGsW
import Derived.Test.YtdbpfbokfmpgcaaGreatZabGrAGsPFiQGrBGrCGrDGrE
set_option linter.unusedVariables false
set_option linter.unusedSimpArgs false
set_option linter.ambiguousOpen false
set_option maxHeartbeats 16000000
attribute [local go_sem] Go.Oper.semAt_some
namespace Go.Proofs.YtdbpfbokfmpgcaaGreat
theorem ZAu {p : Prop} (h : p := by clear b h1 h2; omega) : p := h
theorem ZA4 {p : Prop} (h : p := by obtain ⟨b, hb, _⟩ := (hV id).1 hi; exact ⟨b, hb⟩) : p := h
open Go.RowKit Go.Shelf
namespace Gs
open Mem Gr
def NewPost (w : World) (s : Int) (e : Ending) (w' : World) : Prop := (Size s ∧ ∃ G r1 r2 r3, e = .returned (.tuple #[.pointer (some ⟨G, 0, none⟩), .int .i64 0]) ∧ GridM w' G r1 r2 r3 s [] [] [] ∧ Keeps (fun _ => False) w w' ∧ w.heap.size ≤ G ∧ w.heap.size ≤ r1 ∧ w.heap.size ≤ r2 ∧ w.heap.size ≤ r3) ∨ (¬ Size s ∧ e = .returned (.tuple #[.pointer none, .int .i64 2]) ∧ Keeps (fun _ => False) w w')
theorem new_t (w : World) (s : Int) : Calls Tryz.prog 16 #[.int .i64 s] w (NewPost w s) := by
 have hmm := @run_makeMap Tryz.prog
 rcases Classical.em (1 ≤ s) with h1 | h1
 ·rcases Classical.em (s ≤ 2147483648) with h2 | h2
  ·go_enter Tryz.func16, Tryz.ntmps16
   go_wp2
   go_ret2
   refine Or.inl ⟨⟨h1, h2⟩, w.heap.size + 1 + 1 + 1, w.heap.size, w.heap.size + 1, w.heap.size + 1 + 1, rfl, ⟨?_, ?_, ?_, ?_, Z8, Z8, Z8⟩, Z4, Z8, Nat.le_refl _, Z8, Z8⟩
   ·have := Blk.new (((w.alloc (.map #[] 0)).alloc (.map #[] 0)).alloc (.map #[] 0)) 84 [.int .i64 s, .map (some w.heap.size), .map (some (w.heap.size + 1)), .map (some (w.heap.size + 1 + 1))]
    simpa [Blk] using this
   ·exact (((MapL.new kid w).alloc _).alloc _).alloc _
   ·have := (((CellsM.new (w.alloc (.map #[] 0))).kd ((Keeps.refl (fun _ => False) _).alloc (.map #[] 0))).kd ((Keeps.refl (fun _ => False) _).alloc (.cells #[.int .i64 s, .map (some w.heap.size), .map (some (w.heap.size + 1)), .map (some (w.heap.size + 1 + 1))] 84)))
    simpa using this
   ·have := (MapL.new kid ((w.alloc (.map #[] 0)).alloc (.map #[] 0))).alloc (.cells #[.int .i64 s, .map (some w.heap.size), .map (some (w.heap.size + 1)), .map (some (w.heap.size + 1 + 1))] 84)
    simpa [kvA] using this
  ·go_enter Tryz.func16, Tryz.ntmps16
   go_wp2
   go_ret2
   exact Or.inr ⟨by rintro ⟨a, b⟩; omega, rfl, Keeps.refl _ _⟩
 ·go_enter Tryz.func16, Tryz.ntmps16
  go_wp2
  go_ret2
  exact Or.inr ⟨by rintro ⟨a, b⟩; omega, rfl, Keeps.refl _ _⟩
end Gs
open Go.RowKit Go.Shelf
namespace Gs
open Mem Gr
abbrev Cm := List (Cl × List Nat)
theorem idsAt_no {C : Cm} {c : Cl} (h : ∀ e ∈ C, e.1 ≠ c) : idsAt C c = [] := by
 induction C with
 | nil => rfl
 | cons e L ih => rw [idsAt, if_neg (h e ZA7)]; exact ih (fun x hx => h x ZAt)
theorem idsAt_mem {C : Cm} (hn : (C.map (·.1)).Nodup) {e : Cl × List Nat} (h : e ∈ C) : idsAt C e.1 = e.2 := by
 induction C with
 | nil => cases h
 | cons x L ih =>
  rw [List.map_cons, List.nodup_cons] at hn
  rcases List.mem_cons.1 h with rfl | h1
  ·rw [idsAt, if_pos rfl]
  ·rw [idsAt, if_neg (fun e1 => hn.1 (List.mem_map.2 ⟨e, h1, e1.symm⟩))]
   exact ih hn.2 h1
theorem mem_of_idsAt {C : Cm} {c : Cl} (h : idsAt C c ≠ []) : (c, idsAt C c) ∈ C := by
 induction C with
 | nil => exact absurd rfl h
 | cons x L ih =>
  unfold idsAt at h ⊢
  split at h
  ·rename_i hx; subst hx; rw [if_pos rfl]; simp
  ·rename_i hx; rw [if_neg hx]; exact List.mem_cons_of_mem _ (ih h)
theorem idsAt_addC (id : Nat) (c x : Cl) (C : Cm) : idsAt (addC id C c) x = if x = c then idsAt C c ++ [id] else idsAt C x := by
 induction C with
 | nil =>
  simp only [addC, idsAt, List.nil_append]
  by_cases h : x = c
  ·rw [if_pos h.symm, if_pos h]
  ·rw [if_neg (fun e => h e.symm), if_neg h]
 | cons e L ih =>
  by_cases he : e.1 = c
  ·rw [addC, if_pos he]
   by_cases h : x = c
   ·rw [if_pos h, idsAt, if_pos h.symm, idsAt, if_pos he]
   ·rw [if_neg h, idsAt, if_neg (fun e => h e.symm), idsAt, if_neg (by rw [he]; exact fun e => h e.symm)]
  ·rw [addC, if_neg he, idsAt]
   by_cases h : x = c
   ·subst h
    rw [if_neg he, ih, if_pos rfl, if_pos rfl, idsAt, if_neg he]
   ·rw [ih, if_neg h, if_neg h]; rfl
theorem keys_addC (id : Nat) (c : Cl) (C : Cm) : (addC id C c).map (·.1) = if c ∈ C.map (·.1) then C.map (·.1) else C.map (·.1) ++ [c] := by
 induction C with
 | nil => simp [addC]
 | cons e L ih =>
  by_cases he : e.1 = c
  ·rw [addC, if_pos he, if_pos ZAz]; simp [he]
  ·rw [addC, if_neg he, List.map_cons, ih, List.map_cons]
   by_cases hm : c ∈ L.map (·.1)
   ·rw [if_pos hm, if_pos (List.mem_cons_of_mem _ hm)]
   ·rw [if_neg hm, if_neg (fun h => by rcases List.mem_cons.1 h with h | h; exact he h.symm; exact hm h)]; rfl
theorem nodup_addC {id : Nat} {c : Cl} {C : Cm} (h : (C.map (·.1)).Nodup) : ((addC id C c).map (·.1)).Nodup := by
 rw [keys_addC]
 split
 ·exact h
 ·rename_i hm
  rw [List.nodup_append]
  exact ⟨h, ZA7, fun a ha b hb e => by simp at hb; subst hb; exact hm (e ▸ ha)⟩
theorem full_addC {id : Nat} {c : Cl} {C : Cm} (h : ∀ e ∈ C, e.2 ≠ []) : ∀ e ∈ addC id C c, e.2 ≠ [] := by
 induction C with
 | nil => intro e he; simp [addC] at he; subst he; simp
 | cons x L ih =>
  intro e he
  unfold addC at he
  split at he
  ·rcases List.mem_cons.1 he with rfl | he
   ·simp
   ·exact h e ZAz
  ·rcases List.mem_cons.1 he with rfl | he
   ·exact h e ZA7
   ·exact ih (fun y hy => h y (by simp [hy])) e he
theorem adds_all (id : Nat) : ∀ (cs : List Cl) (C : Cm), cs.Nodup → (C.map (·.1)).Nodup → (∀ e ∈ C, e.2 ≠ []) →
 ((cs.foldl (addC id) C).map (·.1)).Nodup ∧ (∀ e ∈ cs.foldl (addC id) C, e.2 ≠ []) ∧ ∀ x, idsAt (cs.foldl (addC id) C) x = if x ∈ cs then idsAt C x ++ [id] else idsAt C x
 | [], C, _, h1, h2 => ⟨h1, h2, fun x => ZA7⟩
 | c :: cs, C, hn, h1, h2 => by
  rw [List.nodup_cons] at hn
  obtain ⟨g1, g2, g3⟩ := adds_all id cs (addC id C c) hn.2 (nodup_addC h1) (full_addC h2)
  refine ⟨g1, g2, fun x => ?_⟩
  rw [List.foldl_cons, g3 x, idsAt_addC]
  by_cases hx : x = c
  ·subst hx; rw [if_neg hn.1, if_pos rfl, if_pos ZA7]
  ·rw [if_neg hx]
   by_cases hm : x ∈ cs
   ·rw [if_pos hm, if_pos (by simp [hm])]
   ·rw [if_neg hm, if_neg (by simp [hx, hm])]
theorem keys_delC (id : Nat) (c : Cl) (C : Cm) : ((delC id C c).map (·.1)).Sublist (C.map (·.1)) := by
 induction C with
 | nil => simp [delC]
 | cons e L ih =>
  unfold delC
  split
  ·rename_i he
   split
   ·exact List.sublist_cons_self _ _
   ·rw [List.map_cons, List.map_cons, he]; exact List.Sublist.refl _
  ·exact List.Sublist.cons_cons _ ih
theorem full_delC {id : Nat} {c : Cl} {C : Cm} (h : ∀ e ∈ C, e.2 ≠ []) : ∀ e ∈ delC id C c, e.2 ≠ [] := by
 induction C with
 | nil => intro e he; cases he
 | cons x L ih =>
  intro e he
  unfold delC at he
  split at he
  ·split at he
   ·exact h e ZAz
   ·rcases List.mem_cons.1 he with rfl | he
    ·assumption
    ·exact h e ZAz
  ·rcases List.mem_cons.1 he with rfl | he
   ·exact h e ZA7
   ·exact ih (fun y hy => h y (by simp [hy])) e he
theorem idsAt_delC (id : Nat) (c x : Cl) (C : Cm) (hn : (C.map (·.1)).Nodup) : idsAt (delC id C c) x = if x = c then (idsAt C c).filter (fun y => decide (y ≠ id)) else idsAt C x := by
 induction C with
 | nil => simp [delC, idsAt]
 | cons e L ih =>
  rw [List.map_cons, List.nodup_cons] at hn
  by_cases he : e.1 = c
  ·have hno : idsAt L c = [] := idsAt_no (fun y hy e1 => hn.1 (List.mem_map.2 ⟨y, hy, e1.trans he.symm⟩))
   rw [delC, if_pos he]
   by_cases h : x = c
   ·subst h
    rw [if_pos rfl, show idsAt (e :: L) x = e.2 by rw [idsAt, if_pos he]]
    split
    ·rename_i hf; rw [hno, hf]
    ·rw [idsAt, if_pos rfl]
   ·rw [if_neg h, show idsAt (e :: L) x = idsAt L x by rw [idsAt, if_neg (by rw [he]; exact fun e => h e.symm)]]
    split
    ·rfl
    ·rw [idsAt, if_neg (fun e => h e.symm)]
  ·rw [delC, if_neg he, idsAt]
   by_cases h : x = c
   ·subst h
    rw [if_neg he, ih hn.2, if_pos rfl, if_pos rfl, idsAt, if_neg he]
   ·rw [ih hn.2, if_neg h, if_neg h]; rfl
theorem dels_all (id : Nat) : ∀ (cs : List Cl) (C : Cm), cs.Nodup → (C.map (·.1)).Nodup → (∀ e ∈ C, e.2 ≠ []) →
 ((cs.foldl (delC id) C).map (·.1)).Nodup ∧ (∀ e ∈ cs.foldl (delC id) C, e.2 ≠ []) ∧ ∀ x, idsAt (cs.foldl (delC id) C) x = if x ∈ cs then (idsAt C x).filter (fun y => decide (y ≠ id)) else idsAt C x
 | [], C, _, h1, h2 => ⟨h1, h2, fun x => ZA7⟩
 | c :: cs, C, hn, h1, h2 => by
  rw [List.nodup_cons] at hn
  obtain ⟨g1, g2, g3⟩ := dels_all id cs (delC id C c) hn.2 (h1.sublist (keys_delC id c C)) (full_delC h2)
  refine ⟨g1, g2, fun x => ?_⟩
  rw [List.foldl_cons, g3 x, idsAt_delC id c x C h1]
  by_cases hx : x = c
  ·subst hx; rw [if_neg hn.1, if_pos rfl, if_pos ZA7]
  ·rw [if_neg hx]
   by_cases hm : x ∈ cs
   ·rw [if_pos hm, if_pos (by simp [hm])]
   ·rw [if_neg hm, if_neg (by simp [hx, hm])]
structure GI (s : Int) (S : Nat → Bx → Prop) (L : List (Nat × Bx)) (A : List Nat) (C : Cm) : Prop where
 setL : ∀ id b, (id, b) ∈ L ↔ S id b
 keysL : (L.map (·.1)).Nodup
 right : ∀ id b, S id b → Right b
 apart : ∀ id, id ∈ A ↔ ∃ b, S id b ∧ cnt s b > 1024
 nodA : A.Nodup
 keysC : (C.map (·.1)).Nodup
 full : ∀ e ∈ C, e.2 ≠ []
 mem : ∀ c id, id ∈ idsAt C c ↔ ∃ b, S id b ∧ ¬ cnt s b > 1024 ∧ covers s b c
 nod : ∀ c, (idsAt C c).Nodup
theorem GI.nil (s : Int) : GI s (fun _ _ => False) [] [] [] := ⟨ZA7, ZA7, ZA7, ZA7, ZA7, ZA7, ZA7, by simp [idsAt], by simp [idsAt]⟩
theorem GI.congr {s : Int} {S S' : Nat → Bx → Prop} {L : List (Nat × Bx)} {A : List Nat} {C : Cm} (h : GI s S L A C) (e : ∀ id b, S id b ↔ S' id b) : GI s S' L A C := by
 have : S = S' := by funext id b; exact propext (e id b)
 rwa [← this]
theorem hasB_S {s : Int} {S : Nat → Bx → Prop} {L : List (Nat × Bx)} {A : List Nat} {C : Cm} (h : GI s S L A C) (id : Nat) : hasB L id = true ↔ ∃ b, S id b := by
 rw [hasB_keys, List.mem_map]
 constructor
 ·rintro ⟨⟨i, b⟩, hp, rfl⟩; exact ⟨b, (h.setL _ _).1 hp⟩
 ·rintro ⟨b, hb⟩; exact ⟨(id, b), (h.setL _ _).2 hb, rfl⟩
theorem GI.one {s : Int} {S : Nat → Bx → Prop} {L : List (Nat × Bx)} {A : List Nat} {C : Cm} (h : GI s S L A C) {id : Nat} {b b' : Bx} (h1 : S id b) (h2 : S id b') : b = b' := by
 have m1 := (h.setL _ _).2 h1
 have m2 := (h.setL _ _).2 h2
 have hk := h.keysL
 clear h h1 h2
 induction L with
 | nil => cases m1
 | cons p L ih =>
  rw [List.map_cons, List.nodup_cons] at hk
  rcases List.mem_cons.1 m1 with e1 | e1 <;> rcases List.mem_cons.1 m2 with e2 | e2
  ·rw [← e1] at e2; exact ((Prod.mk.inj e2).2).symm
  ·exact absurd (List.mem_map.2 ⟨_, e2, by rw [← e1]⟩) hk.1
  ·exact absurd (List.mem_map.2 ⟨_, e1, by rw [← e2]⟩) hk.1
  ·exact ih e1 e2 hk.2
theorem GI.put {s : Int} {S : Nat → Bx → Prop} {L : List (Nat × Bx)} {A : List Nat} {C : Cm} (h : GI s S L A C) (id : Nat) (b : Bx) (hno : ∀ x, ¬ S id x) {L' : List (Nat × Bx)} {A' : List Nat} {C' : Cm} (hp : (L', A', C') = putS s id b L A C) :
 GI s (fun i x => S i x ∨ (i = id ∧ x = b ∧ Right b)) L' A' C' := by
 unfold putS at hp
 by_cases hR : Right b
 ·have hB : ¬ hasB L id = true := fun e => by obtain ⟨x, hx⟩ := (hasB_S h id).1 e; exact hno x hx
  rw [if_neg (by simpa using hR), if_neg hB] at hp
  have hL : ∀ i x, (i, x) ∈ L ++ [(id, b)] ↔ S i x ∨ (i = id ∧ x = b ∧ Right b) := fun i x => by
   rw [List.mem_append, h.setL i x, List.mem_singleton, Prod.mk.injEq]; simp [hR]
  have hk : ((L ++ [(id, b)]).map (·.1)).Nodup := by
   rw [List.map_append, List.nodup_append]
   refine ⟨h.keysL, ZA7, fun a ha c hc e => ?_⟩
   simp only [List.map_cons, List.map_nil, List.mem_singleton] at hc
   subst hc
   exact hB ((hasB_keys L _).2 (e ▸ ha))
  have hr : ∀ i x, S i x ∨ (i = id ∧ x = b ∧ Right b) → Right x := fun i x hx => by
   rcases hx with hx | ⟨rfl, rfl, hx⟩
   ·exact h.right _ _ hx
   ·exact hx
  by_cases hc : cnt s b > 1024
  ·rw [if_pos hc] at hp
   simp only [Prod.mk.injEq] at hp
   obtain ⟨rfl, rfl, rfl⟩ := hp
   have hA : id ∉ A := fun e => by obtain ⟨x, hx, _⟩ := (h.apart id).1 e; exact hno x hx
   refine ⟨hL, hk, hr, fun i => ?_, ?_, h.keysC, h.full, fun c i => ?_, h.nod⟩
   ·rw [List.mem_append, h.apart i, List.mem_singleton]
    constructor
    ·rintro (⟨x, hx, hx2⟩ | rfl)
     ·exact ⟨x, .inl hx, hx2⟩
     ·exact ⟨b, .inr ⟨rfl, rfl, hR⟩, hc⟩
    ·rintro ⟨x, hx | ⟨rfl, rfl, _⟩, hx2⟩
     ·exact .inl ⟨x, hx, hx2⟩
     ·exact .inr rfl
   ·rw [List.nodup_append]
    exact ⟨h.nodA, ZA7, fun a ha c hc e => by simp at hc; subst hc; exact hA (e ▸ ha)⟩
   ·rw [h.mem c i]
    constructor
    ·rintro ⟨x, hx, h1, h2⟩; exact ⟨x, .inl hx, h1, h2⟩
    ·rintro ⟨x, hx | ⟨rfl, rfl, _⟩, h1, h2⟩
     ·exact ⟨x, hx, h1, h2⟩
     ·exact absurd hc h1
  ·rw [if_neg hc] at hp
   simp only [Prod.mk.injEq] at hp
   obtain ⟨rfl, rfl, rfl⟩ := hp
   obtain ⟨g1, g2, g3⟩ := adds_all id (coverL s b) C (coverL_nodup s b) h.keysC h.full
   have hnoid : ∀ c, id ∉ idsAt C c := fun c e => by obtain ⟨x, hx, _⟩ := (h.mem c id).1 e; exact hno x hx
   refine ⟨hL, hk, hr, fun i => ?_, h.nodA, g1, g2, fun c i => ?_, fun c => ?_⟩
   ·rw [h.apart i]
    constructor
    ·rintro ⟨x, hx, hx2⟩; exact ⟨x, .inl hx, hx2⟩
    ·rintro ⟨x, hx | ⟨rfl, rfl, _⟩, hx2⟩
     ·exact ⟨x, hx, hx2⟩
     ·exact absurd hx2 hc
   ·rw [g3 c]
    have key : i ∈ (if c ∈ coverL s b then idsAt C c ++ [id] else idsAt C c) ↔ i ∈ idsAt C c ∨ (i = id ∧ covers s b c) := by
     rw [← mem_coverL]
     split <;> rename_i hm <;> simp [hm]
    rw [key, h.mem c i]
    constructor
    ·rintro (⟨x, hx, h1, h2⟩ | ⟨rfl, h2⟩)
     ·exact ⟨x, .inl hx, h1, h2⟩
     ·exact ⟨b, .inr ⟨rfl, rfl, hR⟩, hc, h2⟩
    ·rintro ⟨x, hx | ⟨rfl, rfl, _⟩, h1, h2⟩
     ·exact .inl ⟨x, hx, h1, h2⟩
     ·exact .inr ⟨rfl, h2⟩
   ·rw [g3 c]
    split
    ·rw [List.nodup_append]
     exact ⟨h.nod c, ZA7, fun a ha x hx e => by simp at hx; subst hx; exact hnoid c (e ▸ ha)⟩
    ·exact h.nod c
 ·rw [if_pos hR] at hp
  simp only [Prod.mk.injEq] at hp
  obtain ⟨rfl, rfl, rfl⟩ := hp
  exact h.congr (fun i x => ⟨.inl, fun hx => by rcases hx with hx | ⟨_, _, hx⟩; exact hx; exact absurd hx hR⟩)
theorem GI.del {s : Int} {S : Nat → Bx → Prop} {L : List (Nat × Bx)} {A : List Nat} {C : Cm} (h : GI s S L A C) (id : Nat) (b : Bx) (hb : S id b) {A' : List Nat} {C' : Cm}
 (hp : (id ∈ A ∧ A' = delA id A ∧ C' = C) ∨ (id ∉ A ∧ A' = A ∧ C' = (coverL s b).foldl (delC id) C)) :
 GI s (fun i x => S i x ∧ i ≠ id) (delB id L) A' C' := by
 have hL : ∀ i x, (i, x) ∈ delB id L ↔ S i x ∧ i ≠ id := fun i x => by
  unfold delB; rw [List.mem_filter, h.setL i x]; simp
 have hk : ((delB id L).map (·.1)).Nodup := h.keysL.sublist (List.Sublist.map _ (List.filter_sublist))
 have hr : ∀ i x, S i x ∧ i ≠ id → Right x := fun i x hx => h.right _ _ hx.1
 have hap : id ∈ A ↔ cnt s b > 1024 := by
  rw [h.apart id]
  exact ⟨fun ⟨x, hx, h1⟩ => by rwa [h.one hb hx], fun h1 => ⟨b, hb, h1⟩⟩
 rcases hp with ⟨hA, rfl, rfl⟩ | ⟨hA, rfl, rfl⟩
 ·have hc := hap.1 hA
  refine ⟨hL, hk, hr, fun i => ?_, h.nodA.sublist List.filter_sublist, h.keysC, h.full, fun c i => ?_, h.nod⟩
  ·unfold delA
   rw [List.mem_filter, h.apart i]
   constructor
   ·rintro ⟨⟨x, hx, h1⟩, h2⟩; exact ⟨x, ⟨hx, by simpa using h2⟩, h1⟩
   ·rintro ⟨x, ⟨hx, h2⟩, h1⟩; exact ⟨⟨x, hx, h1⟩, by simpa using h2⟩
  ·rw [h.mem c i]
   constructor
   ·rintro ⟨x, hx, h1, h2⟩
    refine ⟨x, ⟨hx, ?_⟩, h1, h2⟩
    rintro rfl
    rw [h.one hb hx] at hc
    exact h1 hc
   ·rintro ⟨x, ⟨hx, _⟩, h1, h2⟩; exact ⟨x, hx, h1, h2⟩
 ·have hc : ¬ cnt s b > 1024 := fun e => hA (hap.2 e)
  obtain ⟨g1, g2, g3⟩ := dels_all id (coverL s b) C (coverL_nodup s b) h.keysC h.full
  refine ⟨hL, hk, hr, fun i => ?_, h.nodA, g1, g2, fun c i => ?_, fun c => ?_⟩
  ·rw [h.apart i]
   constructor
   ·rintro ⟨x, hx, h1⟩
    exact ⟨x, ⟨hx, fun e => hA (by rw [← e]; exact (h.apart i).2 ⟨x, hx, h1⟩)⟩, h1⟩
   ·rintro ⟨x, ⟨hx, _⟩, h1⟩; exact ⟨x, hx, h1⟩
  ·rw [g3 c]
   have key : i ∈ (if c ∈ coverL s b then (idsAt C c).filter (fun y => decide (y ≠ id)) else idsAt C c) ↔ i ∈ idsAt C c ∧ i ≠ id := by
    split
    ·rw [List.mem_filter]; simp
    ·rename_i hm
     refine ⟨fun hi => ⟨hi, ?_⟩, fun hi => hi.1⟩
     rintro rfl
     obtain ⟨x, hx, h1, h2⟩ := (h.mem c i).1 hi
     rw [← h.one hb hx] at h2
     exact hm (mem_coverL.2 h2)
   rw [key, h.mem c i]
   constructor
   ·rintro ⟨⟨x, hx, h1, h2⟩, h3⟩; exact ⟨x, ⟨hx, h3⟩, h1, h2⟩
   ·rintro ⟨x, ⟨hx, h3⟩, h1, h2⟩; exact ⟨⟨x, hx, h1, h2⟩, h3⟩
  ·rw [g3 c]
   split
   ·exact (h.nod c).sublist List.filter_sublist
   ·exact h.nod c
theorem GI.cellKeys {s : Int} {S : Nat → Bx → Prop} {L : List (Nat × Bx)} {A : List Nat} {C : Cm} (h : GI s S L A C) (c : Cl) : c ∈ C.map (·.1) ↔ ∃ id b, S id b ∧ ¬ cnt s b > 1024 ∧ covers s b c := by
 constructor
 ·intro hm
  obtain ⟨e, he, rfl⟩ := List.mem_map.1 hm
  have h1 := idsAt_mem h.keysC he
  obtain ⟨i, hi⟩ := List.exists_mem_of_ne_nil _ (h.full e he)
  rw [← h1] at hi
  obtain ⟨b, hb⟩ := (h.mem e.1 i).1 hi
  exact ⟨i, b, hb⟩
 ·rintro ⟨i, b, hb⟩
  have hi := (h.mem c i).2 ⟨b, hb⟩
  exact List.mem_map.2 ⟨_, mem_of_idsAt (List.ne_nil_of_mem hi), rfl⟩
theorem ids_len {s : Int} {S : Nat → Bx → Prop} {L : List (Nat × Bx)} {A : List Nat} {C : Cm} (h : GI s S L A C) (c : Cl) : (idsAt C c).length ≤ L.length := by
 have := (h.nod c).length_le_of_subset (l₂ := L.map (·.1)) (fun i hi => by
  obtain ⟨b, hb, _⟩ := (h.mem c i).1 hi
  exact List.mem_map.2 ⟨(i, b), (h.setL _ _).2 hb, rfl⟩)
 simpa using this
theorem apart_len {s : Int} {S : Nat → Bx → Prop} {L : List (Nat × Bx)} {A : List Nat} {C : Cm} (h : GI s S L A C) : A.length ≤ L.length := by
 have := h.nodA.length_le_of_subset (l₂ := L.map (·.1)) (fun i hi => by
  obtain ⟨b, hb, _⟩ := (h.apart i).1 hi
  exact List.mem_map.2 ⟨(i, b), (h.setL _ _).2 hb, rfl⟩)
 simpa using this
theorem flat_len {s : Int} {S : Nat → Bx → Prop} {L : List (Nat × Bx)} {A : List Nat} {C : Cm} (h : GI s S L A C) (cs : List Cl) : (A ++ cs.flatMap (idsAt C)).length ≤ L.length * (cs.length + 1) := by
 have h1 : (cs.flatMap (idsAt C)).length ≤ L.length * cs.length := by
  induction cs with
  | nil => simp
  | cons c cs ih =>
   rw [List.flatMap_cons, List.length_append, List.length_cons, Nat.mul_add, Nat.mul_one]
   have := ids_len h c
   omega
 have h2 := apart_len h
 rw [List.length_append, Nat.mul_add, Nat.mul_one]
 omega
end Gs
open Go.RowKit Go.Shelf
namespace Gs
open Mem Gr
theorem rowAt_mid {y dx dy s t : Int} (hs : 1 ≤ s) (hd : 0 < dx) (h0 : 0 ≤ t) (h1 : t ≤ dx) : min y (y + dy) / s ≤ rowAt y dx dy s t ∧ rowAt y dx dy s t ≤ max y (y + dy) / s := by
 have e : y * dx + dy * t = y * (dx - t) + (y + dy) * t := by rw [Int.mul_sub, Int.add_mul]; omega
 have a1 : min y (y + dy) * (dx - t) ≤ y * (dx - t) := Int.mul_le_mul_of_nonneg_right Z8 Z8
 have a2 : min y (y + dy) * t ≤ (y + dy) * t := Int.mul_le_mul_of_nonneg_right Z8 h0
 have a3 : y * (dx - t) ≤ max y (y + dy) * (dx - t) := Int.mul_le_mul_of_nonneg_right Z8 Z8
 have a4 : (y + dy) * t ≤ max y (y + dy) * t := Int.mul_le_mul_of_nonneg_right Z8 h0
 have e1 : min y (y + dy) * dx = min y (y + dy) * (dx - t) + min y (y + dy) * t := by rw [Int.mul_sub]; omega
 have e2 : max y (y + dy) * dx = max y (y + dy) * (dx - t) + max y (y + dy) * t := by rw [Int.mul_sub]; omega
 have hp : 1 ≤ dx * s := by have := Int.mul_pos hd (show 0 < s by omega); omega
 unfold rowAt
 constructor
 ·rw [← sdiv (s := s) hd]
  exact ediv_mono hp Z8
 ·rw [← sdiv (a := max y (y + dy)) (s := s) hd]
  exact ediv_mono hp Z8
theorem lineR_in {x y dx dy s : Int} (hs : 1 ≤ s) (hd : 0 ≤ dx) {c : Cl} (h : c ∈ lineR x y dx dy s) : x / s ≤ c.1 ∧ c.1 ≤ (x + dx) / s ∧ min y (y + dy) / s ≤ c.2 ∧ c.2 ≤ max y (y + dy) / s := by
 unfold lineR at h
 simp only [List.mem_flatMap, List.mem_map, mem_upto] at h
 obtain ⟨k, ⟨h1, h2⟩, r, ⟨h3, h4⟩, rfl⟩ := h
 refine ⟨h1, h2, ?_⟩
 have m1 : min y (y + dy) / s ≤ y / s := ediv_mono hs Z8
 have m2 : min y (y + dy) / s ≤ (y + dy) / s := ediv_mono hs Z8
 have m3 : y / s ≤ max y (y + dy) / s := ediv_mono hs Z8
 have m4 : (y + dy) / s ≤ max y (y + dy) / s := ediv_mono hs Z8
 have g1 : k * s ≤ x + dx := (Int.le_ediv_iff_mul_le Z8).1 h2
 have g2 : x < (k + 1) * s := by
  have := Int.lt_ediv_add_one_mul_self x (show 0 < s by omega)
  have := Int.mul_le_mul_of_nonneg_right (show x / s + 1 ≤ k + 1 by omega) (show 0 ≤ s by omega)
  omega
 unfold lowR at h3
 unfold highR at h4
 by_cases hz : dx = 0
 ·rw [if_pos hz] at h3 h4; simp only; omega
 ·rw [if_neg hz] at h3 h4
  have hd' : 0 < dx := by omega
  have f1 : min y (y + dy) / s ≤ firstR x y dx dy s k ∧ firstR x y dx dy s k ≤ max y (y + dy) / s := by
   unfold firstR
   split
   ·exact rowAt_mid hs hd' Z8 Z8
   ·omega
  have f0 : min y (y + dy) / s ≤ last0 x y dx dy s k ∧ last0 x y dx dy s k ≤ max y (y + dy) / s := by
   unfold last0
   split
   ·exact rowAt_mid hs hd' Z8 Z8
   ·omega
  have f2 : min y (y + dy) / s ≤ lastR x y dx dy s k ∧ lastR x y dx dy s k ≤ max y (y + dy) / s := by
   unfold lastR
   split
   ·rename_i hc
    obtain ⟨ho, hy⟩ := hc
    unfold ontoR at ho
    simp only [Bool.and_eq_true, decide_eq_true_eq] at ho
    obtain ⟨o1, o2⟩ := ho
    have o3 : last0 x y dx dy s k = rowAt y dx dy s ((k + 1) * s - x) := by unfold last0; rw [if_pos o1]
    rw [o3] at f0 ⊢
    obtain ⟨q, hq⟩ := ZE (rowAt y dx dy s ((k + 1) * s - x))
    rw [← hq] at o2 f0 ⊢
    have p1 : 0 < dy * ((k + 1) * s - x) := Int.mul_pos hy Z8
    have p2 : dx * y < dx * (q * s) := by
     have e1 : q * (dx * s) = dx * (q * s) := by rw [← Int.mul_assoc, Int.mul_comm q dx, Int.mul_assoc]
     have e2 : y * dx = dx * y := Int.mul_comm _ _
     omega
    have p3 : y < q * s := Int.lt_of_mul_lt_mul_left p2 Z8
    have p4 : y / s < q := (Int.ediv_lt_iff_lt_mul Z8).2 p3
    omega
   ·exact f0
  simp only; omega
theorem line_nodup (l : List Int) (lo hi : Int → Int) (h : l.Nodup) : (l.flatMap fun c => (upto (lo c) (hi c)).map fun r => ((c, r) : Cl)).Nodup := by
 induction l with
 | nil => simp
 | cons a l ih =>
  rw [List.nodup_cons] at h
  rw [List.flatMap_cons, List.nodup_append]
  refine ⟨?_, ih h.2, ?_⟩
  ·have := upto_nodup (lo a) (hi a)
   rw [List.nodup_iff_pairwise_ne] at this ⊢
   rw [List.pairwise_map]
   exact this.imp (fun hne e => hne (Prod.mk.inj e).2)
  ·rintro p hp q hq rfl
   obtain ⟨r, _, rfl⟩ := List.mem_map.1 hp
   obtain ⟨c, hc, hq⟩ := List.mem_flatMap.1 hq
   obtain ⟨r', _, e⟩ := List.mem_map.1 hq
   exact h.1 ((Prod.mk.inj e).1 ▸ hc)
theorem lineL_in {px py qx qy s : Int} (hs : 1 ≤ s) {c : Cl} (h : c ∈ lineL px py qx qy s) : covers s (bnd px py qx qy) c := by
 unfold lineL at h
 unfold covers bnd
 split at h
 ·have := lineR_in hs Z8 h
  rw [show qx + (px - qx) = px by omega, show qy + (py - qy) = py by omega] at this
  simp only
  rw [show min px qx = qx by omega, show max px qx = px by omega, Int.min_comm py qy, Int.max_comm py qy]
  exact this
 ·have := lineR_in hs Z8 h
  rw [show px + (qx - px) = qx by omega, show py + (qy - py) = qy by omega] at this
  simp only
  rw [show min px qx = px by omega, show max px qx = qx by omega]
  exact this
theorem lineL_len {px py qx qy s : Int} (hs : Size s) (hp : On px py) (hq : On qx qy) (hc : cnt s (bnd px py qx qy) ≤ 1024) : (lineL px py qx qy s).length ≤ 1024 := by
 have hn : (lineL px py qx qy s).Nodup := by
  unfold lineL
  split <;> exact line_nodup _ _ _ (upto_nodup _ _)
 have h1 := hn.length_le_of_subset (l₂ := coverL s (bnd px py qx qy)) (fun c hc => mem_coverL.2 (lineL_in hs.1 hc))
 have h2 := coverL_len hs (bnd_right hp hq)
 omega
theorem lineL_self {x y s : Int} {c : Cl} : c ∈ lineL x y x y s ↔ c = cof s x y := by
 unfold lineL
 rw [if_neg Z8, show x - x = 0 by omega, show y - y = 0 by omega]
 unfold lineR lowR highR
 simp only [List.mem_flatMap, List.mem_map, mem_upto, Int.add_zero, if_true]
 rw [Int.min_self, Int.max_self]
 unfold cof
 constructor
 ·rintro ⟨k, hk, r, hr, rfl⟩
  rw [show k = x / s by omega, show r = y / s by omega]
 ·rintro rfl
  exact ⟨x / s, Z8, y / s, Z8, rfl⟩
theorem box_cell {s mx my : Int} {b : Bx} (hs : 1 ≤ s) (h1 : b.x0 ≤ mx) (h2 : mx ≤ b.x1) (h3 : b.y0 ≤ my) (h4 : my ≤ b.y1) : covers s b (cof s mx my) :=
 ⟨ediv_mono hs h1, ediv_mono hs h2, ediv_mono hs h3, ediv_mono hs h4⟩
def atT (s : Int) (S : Nat → Bx → Prop) (mx my : Int) (id : Nat) : Prop := ∃ b, S id b ∧ (cnt s b > 1024 ∨ covers s b (cof s mx my))
def crT (s : Int) (S : Nat → Bx → Prop) (px py qx qy : Int) (id : Nat) : Prop := ∃ b, S id b ∧ (cnt s (bnd px py qx qy) ≤ 1024 → cnt s b > 1024 ∨ ∃ c ∈ lineL px py qx qy s, covers s b c)
theorem told_S {s : Int} {S : Nat → Bx → Prop} {L : List (Nat × Bx)} {A : List Nat} {C : Cm} (h : GI s S L A C) (cs : List Cl) (id : Nat) : (id ∈ A ∨ ∃ c ∈ cs, id ∈ idsAt C c) ↔ ∃ b, S id b ∧ (cnt s b > 1024 ∨ ∃ c ∈ cs, covers s b c) := by
 rw [h.apart id]
 constructor
 ·rintro (⟨b, hb, h1⟩ | ⟨c, hc, hi⟩)
  ·exact ⟨b, hb, .inl h1⟩
  ·obtain ⟨b, hb, h1, h2⟩ := (h.mem c id).1 hi
   exact ⟨b, hb, .inr ⟨c, hc, h2⟩⟩
 ·rintro ⟨b, hb, h1⟩
  by_cases hc : cnt s b > 1024
  ·exact .inl ⟨b, hb, hc⟩
  ·obtain ⟨c, hcs, h2⟩ := h1.resolve_left hc
   exact .inr ⟨c, hcs, (h.mem c id).2 ⟨b, hb, hc, h2⟩⟩
theorem at_S {s : Int} {S : Nat → Bx → Prop} {L : List (Nat × Bx)} {A : List Nat} {C : Cm} (h : GI s S L A C) (mx my : Int) (id : Nat) : (id ∈ A ∨ ∃ c ∈ lineL mx my mx my s, id ∈ idsAt C c) ↔ atT s S mx my id := by
 rw [told_S h]
 unfold atT
 constructor
 ·rintro ⟨b, hb, h1⟩
  refine ⟨b, hb, h1.imp_right ?_⟩
  rintro ⟨c, hc, h2⟩; rwa [← lineL_self.1 hc]
 ·rintro ⟨b, hb, h1⟩
  exact ⟨b, hb, h1.imp_right fun h2 => ⟨_, lineL_self.2 rfl, h2⟩⟩
end Gs
open Go.RowKit Go.Shelf
namespace Gs
open Mem Gr
def Gd (w : World) (G : Nat) (s : Int) (S : Nat → Bx → Prop) (n : Nat) (F : Nat → Prop) : Prop :=
 ∃ r1 r2 r3 L A M, GridM w G r1 r2 r3 s L A M ∧ GI s S L A (viewE M) ∧ L.length ≤ n ∧ ∀ k, F k ↔ FpG r1 r2 r3 M k
section
variable {w w' : World} {G : Nat} {s : Int} {S : Nat → Bx → Prop} {n : Nat} {F : Nat → Prop}
theorem Gd.keeps {T : Nat → Prop} (h : Gd w G s S n F) (hk : Keeps T w w') (hG : ¬ T G) (hF : ∀ k, F k → ¬ T k) : Gd w' G s S n F := by
 obtain ⟨r1, r2, r3, L, A, M, h1, h2, h3, h4⟩ := h
 exact ⟨r1, r2, r3, L, A, M, h1.keeps hk hG (fun k hk => hF k ((h4 k).2 hk)), h2, h3, h4⟩
theorem Gd.kd (h : Gd w G s S n F) (hk : Keeps (fun _ => False) w w') : Gd w' G s S n F := h.keeps hk (fun h => h) (fun _ _ h => h)
theorem Gd.lt (h : Gd w G s S n F) {k : Nat} (hk : F k) : k < w.heap.size := by
 obtain ⟨r1, r2, r3, L, A, M, h1, h2, h3, h4⟩ := h
 exact h1.fp_lt ((h4 k).1 hk)
theorem Gd.G_lt (h : Gd w G s S n F) : G < w.heap.size := by
 obtain ⟨r1, r2, r3, L, A, M, h1, h2, h3, h4⟩ := h
 exact h1.blk.lt
theorem Gd.blk (h : Gd w G s S n F) : ∃ cs, Blk w G 84 cs := by
 obtain ⟨r1, r2, r3, L, A, M, h1, h2, h3, h4⟩ := h
 exact ⟨_, h1.blk⟩
theorem Gd.not_ (h : Gd w G s S n F) {b : Nat} {t : TypeId} {cs : List Value} (hb : Blk w b t cs) (ht : 35 ≠ t) : ¬ F b := by
 obtain ⟨r1, r2, r3, L, A, M, h1, h2, h3, h4⟩ := h
 intro hF
 rcases (h4 b).1 hF with e | e | e | e
 ·exact h1.m1.ne hb e
 ·exact h1.m2.ne hb e
 ·exact h1.m3.ne hb e
 ·exact h1.m2.ne_own hb ht e
theorem Gd.congr {S' : Nat → Bx → Prop} (h : Gd w G s S n F) (e : ∀ id b, S id b ↔ S' id b) : Gd w G s S' n F := by
 obtain ⟨r1, r2, r3, L, A, M, h1, h2, h3, h4⟩ := h
 exact ⟨r1, r2, r3, L, A, M, h1, h2.congr e, h3, h4⟩
end
theorem ids_le {M : List CE} {s : Int} {S : Nat → Bx → Prop} {L : List (Nat × Bx)} {A : List Nat} (h : GI s S L A (viewE M)) : ∀ e ∈ M, e.ids.length ≤ L.length := by
 intro e he
 have h1 : (e.c, e.ids) ∈ viewE M := List.mem_map.2 ⟨e, he, rfl⟩
 have h2 := idsAt_mem h.keysC h1
 simp only at h2
 rw [← h2]
 exact ids_len h e.c
theorem gd_del (w : World) (G : Nat) (s : Int) (hs : Size s) (S : Nat → Bx → Prop) (n : Nat) (F : Nat → Prop) (h : Gd w G s S n F) (id : Nat) (b : Bx) (hb : S id b) :
 Calls Tryz.prog 119 #[.pointer (some ⟨G, 0, none⟩), .int .u32 (id : Int)] w fun e w' => e = .returned (.int .i64 0) ∧ ∃ F', Gd w' G s (fun i x => S i x ∧ i ≠ id) n F' ∧ Keeps F w w' ∧ ∀ k, F' k → F k := by
 obtain ⟨r1, r2, r3, L, A, M, h1, h2, h3, h4⟩ := h
 have hlen : (delB id L).length ≤ n := Nat.le_trans (List.length_filter_le _ _) h3
 have fin : ∀ (w' : World) (M' : List CE) (A' : List Nat), GridM w' G r1 r2 r3 s (delB id L) A' M' → GI s (fun i x => S i x ∧ i ≠ id) (delB id L) A' (viewE M') → Keeps (FpG r1 r2 r3 M) w w' → (∀ k, Own M' k → Own M k) → ∃ F', Gd w' G s (fun i x => S i x ∧ i ≠ id) n F' ∧ Keeps F w w' ∧ ∀ k, F' k → F k := by
  intro w' M' A' g1 g2 g3 g4
  refine ⟨FpG r1 r2 r3 M', ⟨r1, r2, r3, _, _, M', g1, g2, hlen, fun _ => Iff.rfl⟩, g3.mono (fun k _ hk => (h4 k).2 hk), ?_⟩
  rintro k (e | e | e | e)
  ·exact (h4 k).2 (.inl e)
  ·exact (h4 k).2 (.inr (.inl e))
  ·exact (h4 k).2 (.inr (.inr (.inl e)))
  ·exact (h4 k).2 (.inr (.inr (.inr (g4 k e))))
 by_cases hA : id ∈ A
 ·refine Calls.mono (del_apart w G r1 r2 r3 s L A M h1 id b ((h2.setL _ _).2 hb) hA) ?_
  rintro e w' ⟨M', rfl, g1, g2, g3, g4⟩
  exact ⟨rfl, fin w' M' _ g1 (h2.del id b hb (.inl ⟨hA, rfl, g2⟩)) g3 g4⟩
 ·refine Calls.mono (del_in w G r1 r2 r3 s hs L A M h1 id b ((h2.setL _ _).2 hb) hA (h2.right _ _ hb) (fun c hc => ?_)) ?_
  ·have hc' : ¬ cnt s b > 1024 := fun e => hA ((h2.apart id).2 ⟨b, hb, e⟩)
   obtain ⟨e, he, e1⟩ := List.mem_map.1 ((h2.cellKeys c).2 ⟨id, b, hb, hc', mem_coverL.1 hc⟩)
   exact ⟨e, he, e1⟩
  ·rintro e w' ⟨M', rfl, g1, g2, g3, g4⟩
   exact ⟨rfl, fin w' M' _ g1 (h2.del id b hb (.inr ⟨hA, rfl, g2⟩)) g3 g4⟩
theorem told_len {s : Int} {S : Nat → Bx → Prop} {L : List (Nat × Bx)} {A : List Nat} {C : Cm} (h : GI s S L A C) {V : List Nat} (hs : V.Pairwise (· < ·)) (hV : ∀ id, id ∈ V → ∃ b, S id b) : V.length ≤ L.length := by
 have hn : V.Nodup := hs.imp (fun h => Z8)
 have := hn.length_le_of_subset (l₂ := L.map (·.1)) (fun i hi => by
  obtain ⟨b, hb⟩ := hV i hi
  exact List.mem_map.2 ⟨(i, b), (h.setL _ _).2 hb, rfl⟩)
 simpa using this
theorem gd_at (w : World) (G : Nat) (s : Int) (hs : Size s) (S : Nat → Bx → Prop) (n : Nat) (F : Nat → Prop) (h : Gd w G s S n F) (hn : n ≤ 65536) (mx my : Int) (hm : On mx my) :
 Calls Tryz.prog 117 #[.pointer (some ⟨G, 0, none⟩), .agg #[.int .i32 mx, .int .i32 my]] w (fun e w' => ∃ VB V, e = .returned (.func (.func 92) #[] #[.pointer (some ⟨VB, 0, none⟩)]) ∧ Keeps (fun _ => False) w w' ∧ Vals w.heap.size w' VB V ∧ V.Pairwise (· < ·) ∧ V.length ≤ 9223372036854775807 ∧ ∀ id, id ∈ V ↔ atT s S mx my id) := by
 obtain ⟨r1, r2, r3, L, A, M, h1, h2, h3, h4⟩ := h
 have hl : (lineL mx my mx my s).length ≤ 1024 := by
  refine lineL_len hs hm hm ?_
  unfold cnt bnd
  simp only
  rw [Int.min_self, Int.max_self, Int.min_self, Int.max_self]
  rw [show mx / s - mx / s + 1 = 1 by omega, show my / s - my / s + 1 = 1 by omega]; omega
 refine Calls.mono (at_t w G r1 r2 r3 s hs L A M h1 mx my hm (by
  have := flat_len h2 (lineL mx my mx my s)
  have := Nat.mul_le_mul (Nat.le_trans h3 hn) (show (lineL mx my mx my s).length + 1 ≤ 1025 by omega)
  omega)) ?_
 rintro e w' ⟨VB, V, rfl, g1, g2, g3, g4⟩
 have hV : ∀ id, id ∈ V ↔ atT s S mx my id := fun id => (g4 id).trans (at_S h2 mx my id)
 refine ⟨VB, V, rfl, g1, g2, g3, ?_, hV⟩
 have := told_len h2 g3 (fun id hi => ZA4)
 omega
theorem gd_cross (w : World) (G : Nat) (s : Int) (hs : Size s) (S : Nat → Bx → Prop) (n : Nat) (F : Nat → Prop) (h : Gd w G s S n F) (hn : n ≤ 65536) (px py qx qy : Int) (hp : On px py) (hq : On qx qy) :
 Calls Tryz.prog 118 #[.pointer (some ⟨G, 0, none⟩), .agg #[.int .i32 px, .int .i32 py], .agg #[.int .i32 qx, .int .i32 qy]] w (fun e w' => ∃ VB V, e = .returned (.func (.func 92) #[] #[.pointer (some ⟨VB, 0, none⟩)]) ∧ Keeps (fun _ => False) w w' ∧ Vals w.heap.size w' VB V ∧ V.Pairwise (· < ·) ∧ V.length ≤ 9223372036854775807 ∧ ∀ id, id ∈ V ↔ crT s S px py qx qy id) := by
 obtain ⟨r1, r2, r3, L, A, M, h1, h2, h3, h4⟩ := h
 by_cases hc : cnt s (bnd px py qx qy) ≤ 1024
 ·have hl := lineL_len hs hp hq hc
  refine Calls.mono (cross_near w G r1 r2 r3 s hs L A M h1 px py qx qy hp hq hc (by
   have := flat_len h2 (lineL px py qx qy s)
   have := Nat.mul_le_mul (Nat.le_trans h3 hn) (show (lineL px py qx qy s).length + 1 ≤ 1025 by omega)
   omega)) ?_
  rintro e w' ⟨VB, V, rfl, g1, g2, g3, g4⟩
  have hV : ∀ id, id ∈ V ↔ crT s S px py qx qy id := fun id => by
   rw [g4 id, told_S h2]
   unfold crT
   constructor
   ·rintro ⟨b, hb, h1⟩; exact ⟨b, hb, fun _ => h1⟩
   ·rintro ⟨b, hb, h1⟩; exact ⟨b, hb, h1 hc⟩
  refine ⟨VB, V, rfl, g1, g2, g3, ?_, hV⟩
  have := told_len h2 g3 (fun id hi => ZA4)
  omega
 ·refine Calls.mono (cross_far w G r1 r2 r3 s hs L A M h1 px py qx qy hp hq hc Z8) ?_
  rintro e w' ⟨VB, V, rfl, g1, g2, g3, g4⟩
  have hV : ∀ id, id ∈ V ↔ crT s S px py qx qy id := fun id => by
   rw [g4 id, hasB_S h2]
   unfold crT
   constructor
   ·rintro ⟨b, hb⟩; exact ⟨b, hb, fun e => absurd e hc⟩
   ·rintro ⟨b, hb, h1⟩; exact ⟨b, hb⟩
  refine ⟨VB, V, rfl, g1, g2, g3, ?_, hV⟩
  have := told_len h2 g3 (fun id hi => ZA4)
  omega
end Gs
namespace Fi
open Gs
def q2 (n d : Int) : Int × Int := if d < 0 then (-n, -d) else (n, d)
def alongN (ax ay bx by_ px py : Int) : Int × Int := if ax ≠ bx then q2 (px - ax) (bx - ax) else q2 (py - ay) (by_ - ay)
def onK (px py ax ay bx by_ : Int) : Prop :=
 if ax = bx ∧ ay = by_ then px = ax ∧ py = ay else turnN ax ay bx by_ px py = 0 ∧ 0 ≤ (alongN ax ay bx by_ px py).1 ∧ (alongN ax ay bx by_ px py).1 ≤ (alongN ax ay bx by_ px py).2
def oneK (px py qx qy cx cy ex ey : Int) : Prop :=
 0 ≤ max (alongN px py qx qy cx cy).1 (alongN px py qx qy ex ey).1 ∧ min (alongN px py qx qy cx cy).1 (alongN px py qx qy ex ey).1 ≤ (alongN px py qx qy cx cy).2
def meetK (px py qx qy cx cy ex ey : Int) : Prop :=
 if px = qx ∧ py = qy then onK px py cx cy ex ey
 else if turnN px py qx qy cx cy = 0 ∧ turnN px py qx qy ex ey = 0 then oneK px py qx qy cx cy ex ey
 else if cx = ex ∧ cy = ey then False
 else
  let den := (qx - px) * (ey - cy) - (qy - py) * (ex - cx)
  let t := q2 ((cx - px) * (ey - cy) - (cy - py) * (ex - cx)) den
  let s := q2 ((cx - px) * (qy - py) - (cy - py) * (qx - px)) den
  den ≠ 0 ∧ (0 ≤ t.1 ∧ t.1 ≤ t.2) ∧ 0 ≤ s.1 ∧ s.1 ≤ s.2
def touch (px py qx qy cx cy ex ey : Int) : Prop :=
 (min cx ex ≤ max px qx ∧ min px qx ≤ max cx ex ∧ min cy ey ≤ max py qy ∧ min py qy ≤ max cy ey) ∧
 ¬ (0 < turnN px py qx qy cx cy ∧ 0 < turnN px py qx qy ex ey) ∧ ¬ (turnN px py qx qy cx cy < 0 ∧ turnN px py qx qy ex ey < 0)
theorem q2_one {a d : Int} (hd : d ≠ 0) : (0 ≤ (q2 a d).1 ∧ (q2 a d).1 ≤ (q2 a d).2) ↔ (0 ≤ a ∧ a ≤ d) ∨ (d ≤ a ∧ a ≤ 0) := by
 unfold q2
 split <;> simp only <;> omega
theorem btw_mul {a d z : Int} (hz : z ≠ 0) : ((0 ≤ a * z ∧ a * z ≤ d * z) ∨ (d * z ≤ a * z ∧ a * z ≤ 0)) ↔ ((0 ≤ a ∧ a ≤ d) ∨ (d ≤ a ∧ a ≤ 0)) := by
 rcases Int.lt_or_lt_of_ne hz with hz | hz
 ·have hn : 0 < -z := by omega
  have e : ∀ u v : Int, u * z ≤ v * z ↔ v ≤ u := fun u v => by
   have := Int.mul_le_mul_right (b := v) (c := u) hn
   rw [Int.mul_neg, Int.mul_neg] at this
   omega
  have e0 : ∀ u : Int, 0 ≤ u * z ↔ u ≤ 0 := fun u => by have := e 0 u; rw [Int.zero_mul] at this; exact this
  have e1 : ∀ u : Int, u * z ≤ 0 ↔ 0 ≤ u := fun u => by have := e u 0; rw [Int.zero_mul] at this; exact this
  rw [e, e, e0, e1]; omega
 ·have e : ∀ u v : Int, u * z ≤ v * z ↔ u ≤ v := fun u v => Int.mul_le_mul_right hz
  have e0 : ∀ u : Int, 0 ≤ u * z ↔ 0 ≤ u := fun u => by have := e 0 u; rw [Int.zero_mul] at this; exact this
  have e1 : ∀ u : Int, u * z ≤ 0 ↔ u ≤ 0 := fun u => by have := e u 0; rw [Int.zero_mul] at this; exact this
  rw [e, e, e0, e1]
theorem line_btw {a b x y : Int} (ha : a ≠ 0) (h : a * x = b * y) (hy : (0 ≤ y ∧ y ≤ a) ∨ (a ≤ y ∧ y ≤ 0)) : (0 ≤ x ∧ x ≤ b) ∨ (b ≤ x ∧ x ≤ 0) := by
 rw [← btw_mul ha, Int.mul_comm x a, h]
 rcases Int.lt_or_le b 0 with hb | hb
 ·have h1 := (btw_mul (z := b) (a := y) (d := a) Z8).2 hy
  rw [Int.mul_comm b y, Int.mul_comm b a]; omega
 ·rcases Int.lt_or_eq_of_le hb with hb | rfl
  ·have h1 := (btw_mul (z := b) (a := y) (d := a) Z8).2 hy
   rw [Int.mul_comm b y, Int.mul_comm b a]; omega
  ·simp
theorem beyond {u v y X : Int} (hv : v ≠ 0) (hy : (0 ≤ y ∧ y ≤ v) ∨ (v ≤ y ∧ y ≤ 0)) (hX : (u < X ∧ 0 < X) ∨ (X < u ∧ X < 0)) : (0 < v ∧ 0 < X → u * y < v * X) ∧ (0 < v ∧ X < 0 → v * X < u * y) ∧ (v < 0 ∧ 0 < X → v * X < u * y) ∧ (v < 0 ∧ X < 0 → u * y < v * X) := by
 have key : ∀ {u v y X : Int}, 0 < v → 0 ≤ y → y ≤ v → u < X → 0 < X → u * y < v * X := fun {u v y X} g1 g2 g3 g4 g5 => by
  have h1 : u * y ≤ X * y := Int.mul_le_mul_of_nonneg_right Z8 g2
  have h2 : X * y ≤ X * v := Int.mul_le_mul_of_nonneg_left g3 Z8
  rcases Int.lt_or_eq_of_le g3 with g | rfl
  ·have h3 : X * y < X * v := Int.mul_lt_mul_of_pos_left g g5
   rw [Int.mul_comm v X]; omega
  ·rw [Int.mul_comm y X]
   exact Int.mul_lt_mul_of_pos_right g4 g1
 refine ⟨fun ⟨h1, h2⟩ => key h1 Z8 Z8 Z8 h2, fun ⟨h1, h2⟩ => ?_, fun ⟨h1, h2⟩ => ?_, fun ⟨h1, h2⟩ => ?_⟩
 ·have := key (u := -u) (v := v) (y := y) (X := -X) h1 Z8 Z8 Z8 Z8
  rw [Int.neg_mul, Int.mul_neg] at this; omega
 ·have := key (u := u) (v := -v) (y := -y) (X := X) Z8 Z8 Z8 Z8 Z8
  rw [Int.neg_mul, Int.mul_neg] at this; omega
 ·have := key (u := -u) (v := -v) (y := -y) (X := -X) Z8 Z8 Z8 Z8 Z8
  rw [Int.neg_mul_neg, Int.neg_mul_neg] at this; omega
theorem crs_h {px py qx qy cx cy ex : Int} : (qx - px) * (cy - cy) - (qy - py) * (ex - cx) = -((qy - py) * (ex - cx)) := by rw [show cy - cy = 0 by omega, Int.mul_zero]; omega
theorem turn_dif {px py qx qy cx cy ex ey : Int} : turnN px py qx qy ex ey = turnN px py qx qy cx cy + ((qx - px) * (ey - cy) - (qy - py) * (ex - cx)) := by
 unfold turnN
 rw [show ey - py = (cy - py) + (ey - cy) by omega, show ex - px = (cx - px) + (ex - cx) by omega, Int.mul_add, Int.mul_add]; omega
theorem turn_s {px py qx qy cx cy : Int} : (cx - px) * (qy - py) - (cy - py) * (qx - px) = -turnN px py qx qy cx cy := by
 unfold turnN
 rw [Int.mul_comm (cx - px), Int.mul_comm (cy - py)]; omega
theorem s_part {f g : Int} (h : g - f ≠ 0) : (0 ≤ (q2 (-f) (g - f)).1 ∧ (q2 (-f) (g - f)).1 ≤ (q2 (-f) (g - f)).2) ↔ ¬ (0 < f ∧ 0 < g) ∧ ¬ (f < 0 ∧ g < 0) := by
 rw [q2_one h]; omega
theorem along_x {px py qx qy cx cy : Int} (h : px ≠ qx) : alongN px py qx qy cx cy = q2 (cx - px) (qx - px) := by unfold alongN; rw [if_pos h]
theorem along_y {px py qx qy cx cy : Int} (h : ¬ px ≠ qx) : alongN px py qx qy cx cy = q2 (cy - py) (qy - py) := by unfold alongN; rw [if_neg h]
theorem q2_two {a b d : Int} (hd : d ≠ 0) : (0 ≤ max (q2 a d).1 (q2 b d).1 ∧ min (q2 a d).1 (q2 b d).1 ≤ (q2 a d).2) ↔ (min a b ≤ max 0 d ∧ min 0 d ≤ max a b) := by
 unfold q2
 split <;> simp only <;> omega
theorem one_touch {px py qx qy cx cy ex ey : Int} (hpq : ¬ (px = qx ∧ py = qy)) (hax : cx = ex ∨ cy = ey) (h1 : turnN px py qx qy cx cy = 0) (h2 : turnN px py qx qy ex ey = 0) :
 oneK px py qx qy cx cy ex ey ↔ touch px py qx qy cx cy ex ey := by
 have hs : (¬ (0 < turnN px py qx qy cx cy ∧ 0 < turnN px py qx qy ex ey) ∧ ¬ (turnN px py qx qy cx cy < 0 ∧ turnN px py qx qy ex ey < 0)) ↔ True := by rw [h1, h2]; simp
 unfold touch
 rw [hs, and_true]
 unfold oneK
 unfold turnN at h1 h2
 by_cases hx : px ≠ qx
 ·rw [along_x hx, along_x hx, q2_two Z8]
  have l1 := line_btw (a := qx - px) (b := qy - py) (x := cy - py) (y := cx - px) Z8 Z8
  have l2 := line_btw (a := qx - px) (b := qy - py) (x := ey - py) (y := ex - px) Z8 Z8
  rcases hax with rfl | rfl
  ·have he : cy = ey := by
    have h3 : (qx - px) * (cy - py) = (qx - px) * (ey - py) := by omega
    have := Int.eq_of_mul_eq_mul_left (show qx - px ≠ 0 by omega) h3
    omega
   subst he
   constructor
   ·intro h
    have := l1 Z8
    omega
   ·intro h; omega
  ·by_cases hce : cx = ex
   ·subst hce
    constructor
    ·intro h
     have := l1 Z8
     omega
    ·intro h; omega
   ·have h3 : (qy - py) * (cx - px) = (qy - py) * (ex - px) := by omega
    have h0 : qy - py = 0 := Classical.byContradiction fun hn => by
     have := Int.eq_of_mul_eq_mul_left hn h3
     omega
    rw [h0, Int.zero_mul] at h1
    have h4 : cy - py = 0 := by
     rcases Int.mul_eq_zero.1 (show (qx - px) * (cy - py) = 0 by omega) with h | h <;> omega
    omega
 ·rw [along_y hx, along_y hx, q2_two Z8]
  have hy : qy - py ≠ 0 := by omega
  have e : qx - px = 0 := by omega
  rw [e, Int.zero_mul] at h1 h2
  have c1 : cx - px = 0 := by
   rcases Int.mul_eq_zero.1 (show (qy - py) * (cx - px) = 0 by omega) with h | h <;> omega
  have c2 : ex - px = 0 := by
   rcases Int.mul_eq_zero.1 (show (qy - py) * (ex - px) = 0 by omega) with h | h <;> omega
  omega
theorem on_touch {px py cx cy ex ey : Int} (hax : cx = ex ∨ cy = ey) : onK px py cx cy ex ey ↔ touch px py px py cx cy ex ey := by
 have ht : ∀ x y, turnN px py px py x y = 0 := fun x y => by unfold turnN; rw [show px - px = 0 by omega, show py - py = 0 by omega]; simp
 have hs : (¬ (0 < turnN px py px py cx cy ∧ 0 < turnN px py px py ex ey) ∧ ¬ (turnN px py px py cx cy < 0 ∧ turnN px py px py ex ey < 0)) ↔ True := by rw [ht, ht]; simp
 unfold touch
 rw [hs, and_true]
 unfold onK
 split
 ·omega
 ·rename_i hne
  by_cases hx : cx ≠ ex
  ·have hy : cy = ey := by omega
   subst hy
   rw [along_x hx, q2_one Z8]
   unfold turnN
   rw [show cy - cy = 0 by omega, Int.zero_mul, Int.sub_zero]
   constructor
   ·rintro ⟨h1, h2⟩
    have : py - cy = 0 := by
     rcases Int.mul_eq_zero.1 h1 with h | h <;> omega
    omega
   ·intro h
    have : py - cy = 0 := by omega
    rw [this, Int.mul_zero]
    omega
  ·have hy : cx = ex := by omega
   subst hy
   rw [along_y hx, q2_one Z8]
   unfold turnN
   rw [show cx - cx = 0 by omega, Int.zero_mul]
   constructor
   ·rintro ⟨h1, h2⟩
    have : px - cx = 0 := by
     rcases Int.mul_eq_zero.1 (show (ey - cy) * (px - cx) = 0 by omega) with h | h <;> omega
    omega
   ·intro h
    have : px - cx = 0 := by omega
    rw [this, Int.mul_zero]
    omega
theorem beyond_two {u v y X Y : Int} (hv : v ≠ 0) (hy : (0 ≤ y ∧ y ≤ v) ∨ (v ≤ y ∧ y ≤ 0)) (hX : (u < X ∧ 0 < X ∧ u < Y ∧ 0 < Y) ∨ (X < u ∧ X < 0 ∧ Y < u ∧ Y < 0)) : (u * y < v * X ∧ u * y < v * Y) ∨ (v * X < u * y ∧ v * Y < u * y) := by
 have b1 := beyond (u := u) hv hy (X := X) Z8
 have b2 := beyond (u := u) hv hy (X := Y) Z8
 rcases hX with hX | hX <;> rcases Int.lt_or_lt_of_ne hv with h | h
 ·exact .inr ⟨b1.2.2.1 ⟨h, Z8⟩, b2.2.2.1 ⟨h, Z8⟩⟩
 ·exact .inl ⟨b1.1 ⟨h, Z8⟩, b2.1 ⟨h, Z8⟩⟩
 ·exact .inl ⟨b1.2.2.2 ⟨h, Z8⟩, b2.2.2.2 ⟨h, Z8⟩⟩
 ·exact .inr ⟨b1.2.1 ⟨h, Z8⟩, b2.2.1 ⟨h, Z8⟩⟩
theorem meet_touch {px py qx qy cx cy ex ey : Int} (hax : cx = ex ∨ cy = ey) : meetK px py qx qy cx cy ex ey ↔ touch px py qx qy cx cy ex ey := by
 unfold meetK
 split
 ·rename_i h; obtain ⟨rfl, rfl⟩ := h; exact on_touch hax
 rename_i hpq
 split
 ·rename_i h; exact one_touch hpq hax h.1 h.2
 rename_i hcol
 have hd := turn_dif (px := px) (py := py) (qx := qx) (qy := qy) (cx := cx) (cy := cy) (ex := ex) (ey := ey)
 split
 ·rename_i h
  obtain ⟨rfl, rfl⟩ := h
  unfold touch
  simp only [false_iff]
  omega
 rename_i hce
 simp only
 by_cases hden : (qx - px) * (ey - cy) - (qy - py) * (ex - cx) = 0
 ·simp only [hden, ne_eq, not_true_eq_false, false_and, false_iff]
  unfold touch
  omega
 simp only [ne_eq, hden, not_false_eq_true, true_and]
 rw [turn_s]
 have es : (qx - px) * (ey - cy) - (qy - py) * (ex - cx) = turnN px py qx qy ex ey - turnN px py qx qy cx cy := by omega
 have hS := s_part (f := turnN px py qx qy cx cy) (g := turnN px py qx qy ex ey) Z8
 rw [← es] at hS
 rw [hS]
 unfold touch
 rcases Classical.em (cy = ey) with rfl | hy
 ·rw [crs_h] at hden
  simp only [crs_h]
  have hz : -(ex - cx) ≠ 0 := by omega
  have hv : qy - py ≠ 0 := fun h => hden (by rw [h]; omega)
  rw [q2_one hden, ← Int.mul_neg, ← Int.mul_neg, btw_mul hz]
  clear hS es hd hcol hpq hden hax hz hce
  constructor
  ·rintro ⟨ht, h1, h2⟩
   refine ⟨?_, h1, h2⟩
   have b := beyond_two (u := qx - px) (X := cx - px) (Y := ex - px) hv ht
   unfold turnN at h1 h2
   generalize (qx - px) * (cy - py) = A at *
   generalize (qy - py) * (cx - px) = B at *
   generalize (qy - py) * (ex - px) = C at *
   refine ⟨?_, ?_, ZAu, ZAu⟩
   ·refine Classical.byContradiction fun hn => ?_
    have := b ZAu
    clear b ht hn
    omega
   ·refine Classical.byContradiction fun hn => ?_
    have := b ZAu
    clear b ht hn
    omega
  ·rintro ⟨ho, h1, h2⟩
   exact ⟨by clear h1 h2; omega, h1, h2⟩
 ·have hx : cx = ex := by omega
  subst hx
  have e0 : cx - cx = 0 := by omega
  rw [e0, Int.mul_zero, Int.sub_zero] at hden
  rw [e0, Int.mul_zero, Int.mul_zero, Int.sub_zero, Int.sub_zero]
  have hz : ey - cy ≠ 0 := by omega
  have hv : qx - px ≠ 0 := fun h => hden (by rw [h]; omega)
  rw [q2_one hden, btw_mul hz]
  clear hS es hd hcol hpq hden hax hz hce e0
  constructor
  ·rintro ⟨ht, h1, h2⟩
   refine ⟨?_, h1, h2⟩
   have b := beyond_two (u := qy - py) (X := cy - py) (Y := ey - py) hv ht
   unfold turnN at h1 h2
   generalize (qx - px) * (cy - py) = A at *
   generalize (qx - px) * (ey - py) = B at *
   generalize (qy - py) * (cx - px) = C at *
   refine ⟨ZAu, ZAu, ?_, ?_⟩
   ·refine Classical.byContradiction fun hn => ?_
    have := b ZAu
    clear b ht hn
    omega
   ·refine Classical.byContradiction fun hn => ?_
    have := b ZAu
    clear b ht hn
    omega
  ·rintro ⟨ho, h1, h2⟩
   exact ⟨by clear h1 h2; omega, h1, h2⟩
def sidesT (px py qx qy : Int) (b : Bx) : Prop :=
 touch px py qx qy b.x0 b.y0 b.x1 b.y0 ∨ touch px py qx qy b.x1 b.y0 b.x1 b.y1 ∨ touch px py qx qy b.x1 b.y1 b.x0 b.y1 ∨ touch px py qx qy b.x0 b.y1 b.x0 b.y0
theorem sides_of {px py qx qy : Int} {b : Bx} (hb : b.x0 ≤ b.x1 ∧ b.y0 ≤ b.y1) (h : sidesT px py qx qy b) : meetsP px py qx qy b := by
 unfold meetsP
 rcases h with h | h | h | h <;> unfold touch at h <;> omega
theorem sides_hit {px py qx qy : Int} {b : Bx} (hb : b.x0 ≤ b.x1 ∧ b.y0 ≤ b.y1) (h : meetsP px py qx qy b) (hp : ¬ coversP px py b) (hq : ¬ coversP qx qy b) : sidesT px py qx qy b := by
 obtain ⟨ho, hl, hr⟩ := h
 unfold coversP at hp hq
 unfold sidesT touch
 have lm : ∀ {a b : Int}, a ≤ b → (0 ≤ qx - px → (qx - px) * (a - py) ≤ (qx - px) * (b - py)) ∧ (qx - px ≤ 0 → (qx - px) * (b - py) ≤ (qx - px) * (a - py)) := fun {a b} hab => ⟨fun h => Int.mul_le_mul_of_nonneg_left Z8 h, fun h => Int.mul_le_mul_of_nonpos_left h Z8⟩
 have ln : ∀ {a b : Int}, a ≤ b → (0 ≤ qy - py → (qy - py) * (a - px) ≤ (qy - py) * (b - px)) ∧ (qy - py ≤ 0 → (qy - py) * (b - px) ≤ (qy - py) * (a - px)) := fun {a b} hab => ⟨fun h => Int.mul_le_mul_of_nonneg_left Z8 h, fun h => Int.mul_le_mul_of_nonpos_left h Z8⟩
 have y1 := lm hb.2
 have x1 := ln hb.1
 have pz : ∀ {u v : Int}, 0 ≤ u → 0 ≤ v → 0 ≤ u * v := fun {u v} => Int.mul_nonneg
 have zp : ∀ {u v : Int}, u ≤ 0 → v ≤ 0 → 0 ≤ u * v := fun {u v} => Int.mul_nonneg_of_nonpos_of_nonpos
 have pn : ∀ {u v : Int}, 0 ≤ u → v ≤ 0 → u * v ≤ 0 := fun {u v} => Int.mul_nonpos_of_nonneg_of_nonpos
 have np : ∀ {u v : Int}, u ≤ 0 → 0 ≤ v → u * v ≤ 0 := fun {u v} => Int.mul_nonpos_of_nonpos_of_nonneg
 have sp : ∀ {u v : Int}, 0 < u → 0 < v → 0 < u * v := fun {u v} => Int.mul_pos
 have sn : ∀ {u v : Int}, 0 < u → v < 0 → u * v < 0 := fun {u v} => Int.mul_neg_of_pos_of_neg
 have ns : ∀ {u v : Int}, u < 0 → 0 < v → u * v < 0 := fun {u v} => Int.mul_neg_of_neg_of_pos
 have nn : ∀ {u v : Int}, u < 0 → v < 0 → 0 < u * v := fun {u v} => Int.mul_pos_of_neg_of_neg
 clear lm ln
 unfold turnN at hl hr ⊢
 rcases Int.le_total 0 (qx - px) with hx | hx <;> rcases Int.le_total 0 (qy - py) with hy | hy
 ·have g1 := y1.1 hx; have g2 := x1.1 hy
  rcases Int.le_total 0 ((qx - px) * (b.y0 - py) - (qy - py) * (b.x0 - px)) with h0 | h0
  ·have K : py ≤ b.y0 := Classical.byContradiction fun hn => by
    have e1 := sn (u := qx - px) (v := b.y0 - py) Z8 Z8
    have e2 := pz (u := qy - py) (v := b.x0 - px) Z8 Z8
    clear hl hr y1 x1
    omega
   clear hp hq y1 x1
   exact .inl ⟨⟨Z8, Z8, Z8, Z8⟩, Z8, Z8⟩
  ·have K : px ≤ b.x0 := Classical.byContradiction fun hn => by
    have e1 := sn (u := qy - py) (v := b.x0 - px) Z8 Z8
    have e2 := pz (u := qx - px) (v := b.y0 - py) Z8 Z8
    clear hl hr y1 x1
    omega
   clear hp hq y1 x1
   exact .inr <| .inr <| .inr ⟨⟨Z8, Z8, Z8, Z8⟩, Z8, Z8⟩
 ·have g1 := y1.1 hx; have g2 := x1.2 hy
  rcases Int.le_total ((qx - px) * (b.y1 - py) - (qy - py) * (b.x0 - px)) 0 with h0 | h0
  ·have K : b.y1 ≤ py := Classical.byContradiction fun hn => by
    have e1 := sp (u := qx - px) (v := b.y1 - py) Z8 Z8
    have e2 := np (u := qy - py) (v := b.x0 - px) Z8 Z8
    clear hl hr y1 x1
    omega
   clear hp hq y1 x1
   exact .inr <| .inr <| .inl ⟨⟨Z8, Z8, Z8, Z8⟩, Z8, Z8⟩
  ·have K : px ≤ b.x0 := Classical.byContradiction fun hn => by
    have e1 := nn (u := qy - py) (v := b.x0 - px) Z8 Z8
    have e2 := pn (u := qx - px) (v := b.y1 - py) Z8 Z8
    clear hl hr y1 x1
    omega
   clear hp hq y1 x1
   exact .inr <| .inr <| .inr ⟨⟨Z8, Z8, Z8, Z8⟩, Z8, Z8⟩
 ·have g1 := y1.2 hx; have g2 := x1.1 hy
  rcases Int.le_total ((qx - px) * (b.y0 - py) - (qy - py) * (b.x1 - px)) 0 with h0 | h0
  ·have K : py ≤ b.y0 := Classical.byContradiction fun hn => by
    have e1 := nn (u := qx - px) (v := b.y0 - py) Z8 Z8
    have e2 := pn (u := qy - py) (v := b.x1 - px) Z8 Z8
    clear hl hr y1 x1
    omega
   clear hp hq y1 x1
   exact .inl ⟨⟨Z8, Z8, Z8, Z8⟩, Z8, Z8⟩
  ·have K : b.x1 ≤ px := Classical.byContradiction fun hn => by
    have e1 := sp (u := qy - py) (v := b.x1 - px) Z8 Z8
    have e2 := np (u := qx - px) (v := b.y0 - py) Z8 Z8
    clear hl hr y1 x1
    omega
   clear hp hq y1 x1
   exact .inr <| .inl ⟨⟨Z8, Z8, Z8, Z8⟩, Z8, Z8⟩
 ·have g1 := y1.2 hx; have g2 := x1.2 hy
  rcases Int.le_total 0 ((qx - px) * (b.y1 - py) - (qy - py) * (b.x1 - px)) with h0 | h0
  ·have K : b.y1 ≤ py := Classical.byContradiction fun hn => by
    have e1 := ns (u := qx - px) (v := b.y1 - py) Z8 Z8
    have e2 := zp (u := qy - py) (v := b.x1 - px) Z8 Z8
    clear hl hr y1 x1
    omega
   clear hp hq y1 x1
   exact .inr <| .inr <| .inl ⟨⟨Z8, Z8, Z8, Z8⟩, Z8, Z8⟩
  ·have K : b.x1 ≤ px := Classical.byContradiction fun hn => by
    have e1 := ns (u := qy - py) (v := b.x1 - px) Z8 Z8
    have e2 := zp (u := qx - px) (v := b.y1 - py) Z8 Z8
    clear hl hr y1 x1
    omega
   clear hp hq y1 x1
   exact .inr <| .inl ⟨⟨Z8, Z8, Z8, Z8⟩, Z8, Z8⟩
theorem box_meets {px py qx qy : Int} {b : Bx} (hb : b.x0 ≤ b.x1 ∧ b.y0 ≤ b.y1) :
 meetsP px py qx qy b ↔ coversP px py b ∨ coversP qx qy b ∨ meetK px py qx qy b.x0 b.y0 b.x1 b.y0 ∨ meetK px py qx qy b.x1 b.y0 b.x1 b.y1 ∨ meetK px py qx qy b.x1 b.y1 b.x0 b.y1 ∨ meetK px py qx qy b.x0 b.y1 b.x0 b.y0 := by
 rw [meet_touch (.inr rfl), meet_touch (.inl rfl), meet_touch (.inr rfl), meet_touch (.inl rfl)]
 constructor
 ·intro h
  by_cases hp : coversP px py b
  ·exact .inl hp
  ·by_cases hq : coversP qx qy b
   ·exact .inr (.inl hq)
   ·exact .inr (.inr (sides_hit hb h hp hq))
 ·rintro (h | h | h)
  ·exact covers_meets h
  ·exact covers_meets' h
  ·exact sides_of hb h
end Fi
end Go.Proofs.YtdbpfbokfmpgcaaGreat
