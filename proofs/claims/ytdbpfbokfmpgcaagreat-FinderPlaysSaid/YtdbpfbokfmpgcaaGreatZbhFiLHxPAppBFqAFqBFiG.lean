/-
FiL: plain: the boxes as one list, what is told of them; no program in sight.
HxP: plain: the document's list and line and cells; no program in sight.
AppB: one element more on a slice of one's own, as long as memory goes.
FqA: the document's list of boxes: what it is in memory; where a number stands.
FqB: the document's list of boxes: Put and Del.
FiG: the finder: the grid by the list of the boxes.
-/
import Derived.Test.YtdbpfbokfmpgcaaGreatZabGrAGsPFiQGrBGrCGrDGrE
import Derived.Test.YtdbpfbokfmpgcaaGreatZaxFiP
import Derived.Test.YtdbpfbokfmpgcaaGreatZawGsYGsZGtAGtBFpP
import Derived.Test.YtdbpfbokfmpgcaaGreatZbeTrZTrPTrQ
import Derived.Test.YtdbpfbokfmpgcaaGreatZaaMemIterTreeAHeldGrowIter
import Derived.Test.YtdbpfbokfmpgcaaGreatZbgFiF
set_option linter.unusedVariables false
set_option linter.unusedSimpArgs false
set_option linter.ambiguousOpen false
set_option maxHeartbeats 16000000
set_option maxRecDepth 100000
attribute [local go_sem] Go.Oper.semAt_some
namespace Go.Proofs.YtdbpfbokfmpgcaaGreat
theorem ZAm {p : Prop} (h : p := by rw [Int.natCast_add]; rfl) : p := h
theorem ZAv {p : Prop} (h : p := by have := HE.out.2; omega) : p := h
theorem ZA2 {p : Prop} (h : p := by first | exact Keeps.refl _ _ | exact (Keeps.refl _ _).drew) : p := h
theorem Ze {p : Prop} (h : p := by
 (go_enter Tryz.func27, Tryz.ntmps27; go_wp2_with (go_at_call 38; (first | (with_reducible refine (HI.out.1 _).mono ?_) | (with_reducible refine (HI.out.2 _).mono ?_)); rintro e w2 ⟨rfl, rfl⟩); go_ret; exact ⟨rfl, Z4⟩)) : p := h
open Go.RowKit Go.Shelf
namespace Fi
open Mem Gr Gs
def Ans (L : List (Nat × Bx)) (tk : Bx → Prop) (V : List Nat) : Prop := V.Pairwise (· < ·) ∧ ∀ id, id ∈ V ↔ ∃ b, (id, b) ∈ L ∧ tk b
theorem rise_ext : ∀ {A B : List Nat}, A.Pairwise (· < ·) → B.Pairwise (· < ·) → (∀ x, x ∈ A ↔ x ∈ B) → A = B
 | [], [], _, _, _ => rfl
 | [], b :: B, _, _, h => by have := (h b).2 ZA7; simp at this
 | a :: A, [], _, _, h => by have := (h a).1 ZA7; simp at this
 | a :: A, b :: B, hA, hB, h => by
  have hA' := List.pairwise_cons.1 hA
  have hB' := List.pairwise_cons.1 hB
  have hab : a = b := by
   rcases List.mem_cons.1 ((h a).1 ZA7) with e | h1
   ·exact e
   ·rcases List.mem_cons.1 ((h b).2 ZA7) with e | h2
    ·exact e.symm
    ·have := hB'.1 a h1; have := hA'.1 b h2; omega
  subst hab
  rw [rise_ext hA'.2 hB'.2 fun x => ?_]
  constructor
  ·intro hx
   rcases List.mem_cons.1 ((h x).1 (List.mem_cons_of_mem _ hx)) with e | h1
   ·have := hA'.1 x hx; omega
   ·exact h1
  ·intro hx
   rcases List.mem_cons.1 ((h x).2 (List.mem_cons_of_mem _ hx)) with e | h1
   ·have := hB'.1 x hx; omega
   ·exact h1
section
variable {L : List (Nat × Bx)} {tk tk' : Bx → Prop} {U V : List Nat}
theorem Ans.one (h : Ans L tk U) (h' : Ans L tk V) : U = V := rise_ext h.1 h'.1 (fun x => (h.2 x).trans (h'.2 x).symm)
theorem Ans.congr (h : Ans L tk V) (e : ∀ id b, (id, b) ∈ L → (tk b ↔ tk' b)) : Ans L tk' V :=
 ⟨h.1, fun id => (h.2 id).trans ⟨fun ⟨b, hb, ht⟩ => ⟨b, hb, (e id b hb).1 ht⟩, fun ⟨b, hb, ht⟩ => ⟨b, hb, (e id b hb).2 ht⟩⟩⟩
theorem Ans.len (h : Ans L tk V) : V.length ≤ L.length := by
 have hn : V.Nodup := h.1.imp (fun h => Z8)
 have := hn.length_le_of_subset (l₂ := L.map (·.1)) (fun i hi => by
  obtain ⟨b, hb, _⟩ := (h.2 i).1 hi
  exact List.mem_map.2 ⟨(i, b), hb, rfl⟩)
 simpa using this
end
structure OkL (L : List (Nat × Bx)) : Prop where
 keys : (L.map (·.1)).Nodup
 right : ∀ p ∈ L, Right p.2
 len : L.length ≤ 65536
 ids : ∀ p ∈ L, p.1 < 4294967296
theorem OkL.nil : OkL [] := ⟨ZA7, ZA7, ZA7, ZA7⟩
def putF (L : List (Nat × Bx)) (id : Nat) (b : Bx) : Int × List (Nat × Bx) :=
 if ¬ Right b then (142, L) else if hasB L id = true then (140, L) else if 65536 ≤ L.length then (5, L) else (0, L ++ [(id, b)])
def delF (L : List (Nat × Bx)) (id : Nat) : Int × List (Nat × Bx) := if hasB L id = true then (0, delB id L) else (141, L)
theorem hasB_iff {L : List (Nat × Bx)} {id : Nat} : hasB L id = true ↔ ∃ b, (id, b) ∈ L := by
 unfold hasB
 rw [List.any_eq_true]
 constructor
 ·rintro ⟨⟨i, b⟩, hp, e⟩
  have : i = id := by simpa using e
  subst this
  exact ⟨b, hp⟩
 ·rintro ⟨b, hp⟩; exact ⟨_, hp, ZA7⟩
theorem mem_delB {L : List (Nat × Bx)} {id : Nat} {p : Nat × Bx} : p ∈ delB id L ↔ p ∈ L ∧ p.1 ≠ id := by
 unfold delB
 rw [List.mem_filter]; simp
theorem OkL.put {L : List (Nat × Bx)} (h : OkL L) {id : Nat} (hid : id < 4294967296) (b : Bx) : OkL (putF L id b).2 := by
 unfold putF
 split
 ·exact h
 ·rename_i hb
  have hb : Right b := Classical.not_not.1 hb
  split
  ·exact h
  ·rename_i hh
   split
   ·exact h
   ·rename_i hl
    refine ⟨?_, fun p hp => ?_, ZAV, fun p hp => ?_⟩
    ·rw [List.map_append, List.nodup_append]
     refine ⟨h.keys, ZA7, ?_⟩
     intro a ha c hc
     simp at hc; subst hc
     rintro rfl
     obtain ⟨⟨i, x⟩, hp, e⟩ := List.mem_map.1 ha
     simp only at e
     subst e
     exact hh (hasB_iff.2 ⟨x, hp⟩)
    ·rcases List.mem_append.1 hp with hp | hp
     ·exact h.right p hp
     ·simp at hp; subst hp; exact hb
    ·rcases List.mem_append.1 hp with hp | hp
     ·exact h.ids p hp
     ·simp at hp; subst hp; exact hid
theorem OkL.del {L : List (Nat × Bx)} (h : OkL L) (id : Nat) : OkL (delF L id).2 := by
 unfold delF
 split
 ·refine ⟨?_, fun p hp => h.right p (mem_delB.1 hp).1, Nat.le_trans (List.length_filter_le _ _) h.len, fun p hp => h.ids p (mem_delB.1 hp).1⟩
  exact h.keys.sublist ((List.filter_sublist (l := L)).map _)
 ·exact h
theorem OkL.one {L : List (Nat × Bx)} (h : OkL L) {id : Nat} {a b : Bx} (ha : (id, a) ∈ L) (hb : (id, b) ∈ L) : a = b := by
 have hk := h.keys
 clear h
 induction L with
 | nil => cases ha
 | cons p L ih =>
  rw [List.map_cons, List.nodup_cons] at hk
  rcases List.mem_cons.1 ha with e1 | h1 <;> rcases List.mem_cons.1 hb with e2 | h2
  ·rw [← e1] at e2; exact (Prod.mk.inj e2).2.symm
  ·exact absurd (List.mem_map.2 ⟨_, h2, by rw [← e1]⟩) hk.1
  ·exact absurd (List.mem_map.2 ⟨_, h1, by rw [← e2]⟩) hk.1
  ·exact ih h1 h2 hk.2
/-! the tree's list -/
def toT (b : Bx) : Tree.Bx := ⟨b.x0, b.y0, b.x1, b.y1⟩
def Tw (L : List (Nat × Bx)) (T : List (Nat × Tree.Bx)) : Prop := ∀ id b, (id, toT b) ∈ T ↔ (id, b) ∈ L
theorem toT_of (t : Tree.Bx) : ∃ b, t = toT b := ⟨⟨t.x0, t.y0, t.x1, t.y1⟩, rfl⟩
theorem toT_inj {a b : Bx} (h : toT a = toT b) : a = b := by
 cases a; cases b; simp only [toT, Tree.Bx.mk.injEq] at h; simp only [Bx.mk.injEq]; exact h
theorem tw_has {L : List (Nat × Bx)} {T : List (Nat × Tree.Bx)} (h : Tw L T) (id : Nat) : Tree.hasL T id = hasB L id := by
 have : Tree.hasL T id = true ↔ hasB L id = true := by
  rw [Tree.hasL_iff, hasB_iff]
  constructor
  ·rintro ⟨⟨i, t⟩, hp, rfl⟩
   obtain ⟨b, rfl⟩ := toT_of t
   exact ⟨b, (h _ _).1 hp⟩
  ·rintro ⟨b, hb⟩
   exact ⟨_, (h _ _).2 hb, rfl⟩
 cases h1 : Tree.hasL T id <;> cases h2 : hasB L id <;> simp [h1, h2] at this ⊢
theorem tw_len {L : List (Nat × Bx)} {T : List (Nat × Tree.Bx)} (h : Tw L T) (hr : Tree.Rising T) : T.length ≤ L.length := by
 have hn : (T.map (·.1)).Nodup := by
  have : (T.map (·.1)).Pairwise (· < ·) := List.pairwise_map.2 (hr.imp (fun h => h))
  exact this.imp (fun h => Z8)
 have := hn.length_le_of_subset (l₂ := L.map (·.1)) (fun i hi => by
  obtain ⟨⟨j, t⟩, hp, rfl⟩ := List.mem_map.1 hi
  obtain ⟨b, rfl⟩ := toT_of t
  exact List.mem_map.2 ⟨(j, b), (h _ _).1 hp, rfl⟩)
 simpa using this
theorem tw_put {L : List (Nat × Bx)} {T : List (Nat × Tree.Bx)} (h : Tw L T) (id : Nat) (b : Bx) : Tw (L ++ [(id, b)]) (Tree.putL id (toT b) T) := by
 intro i x
 rw [Tree.putL_mem, List.mem_append, List.mem_singleton, Prod.mk.injEq, Prod.mk.injEq, h]
 constructor
 ·rintro (⟨e1, e2⟩ | h1)
  ·exact .inr ⟨e1, toT_inj e2⟩
  ·exact .inl h1
 ·rintro (h1 | ⟨e1, e2⟩)
  ·exact .inr h1
  ·exact .inl ⟨e1, by rw [e2]⟩
theorem tw_del {L : List (Nat × Bx)} {T : List (Nat × Tree.Bx)} (h : Tw L T) (id : Nat) : Tw (delB id L) (Tree.delL id T) := by
 intro i x
 unfold Tree.delL
 rw [List.mem_filter, mem_delB, h]
 simp
/-! what the indexes hand out holds all that is wanted -/
theorem tree_at {px py : Int} {b : Bx} (hb : Right b) (h : coversP px py b) : (toT b).meet ⟨px, py, px, py⟩ = true := by
 obtain ⟨_, _, h1, h2⟩ := hb
 obtain ⟨h3, h4, h5, h6⟩ := h
 simp only [Tree.Bx.meet, Tree.Bx.right, toT, Bool.and_eq_true, decide_eq_true_eq]
 refine ⟨⟨⟨⟨⟨⟨?_, ?_⟩, ?_, ?_⟩, ?_⟩, ?_⟩, ?_⟩, ?_⟩ <;> first | exact decide_eq_true Z8 | omega
theorem tree_cr {px py qx qy : Int} {b : Bx} (hb : Right b) (h : meetsP px py qx qy b) : (toT b).meet ⟨min px qx, min py qy, max px qx, max py qy⟩ = true := by
 obtain ⟨_, _, h1, h2⟩ := hb
 obtain ⟨⟨h3, h4, h5, h6⟩, _⟩ := h
 simp only [Tree.Bx.meet, Tree.Bx.right, toT, Bool.and_eq_true, decide_eq_true_eq]
 refine ⟨⟨⟨⟨⟨⟨?_, ?_⟩, ?_, ?_⟩, ?_⟩, ?_⟩, ?_⟩, ?_⟩ <;> first | exact decide_eq_true Z8 | omega
theorem covers_on {px py : Int} {b : Bx} (hb : Right b) (h : coversP px py b) : On px py := by
 obtain ⟨⟨a1, a2, a3, a4⟩, ⟨a5, a6, a7, a8⟩, _, _⟩ := hb
 obtain ⟨h3, h4, h5, h6⟩ := h
 exact ⟨Z8, Z8, Z8, Z8⟩
theorem covers_cell {s px py : Int} {b : Bx} (hs : Size s) (h : coversP px py b) : covers s b (cof s px py) := by
 obtain ⟨h3, h4, h5, h6⟩ := h
 obtain ⟨h1, _⟩ := hs
 have dv : ∀ a c : Int, a ≤ c → a / s ≤ c / s := fun a c h => Int.ediv_le_ediv Z8 h
 exact ⟨dv _ _ h3, dv _ _ h4, dv _ _ h5, dv _ _ h6⟩
def inL (L : List (Nat × Bx)) (id : Nat) (b : Bx) : Prop := (id, b) ∈ L
theorem grid_at {s px py : Int} {L : List (Nat × Bx)} (hs : Size s) {id : Nat} {b : Bx} (hb : (id, b) ∈ L) (h : coversP px py b) : atT s (inL L) px py id :=
 ⟨b, hb, .inr (covers_cell hs h)⟩
theorem grid_cr {s px py qx qy : Int} {L : List (Nat × Bx)} (hs : Size s) {id : Nat} {b : Bx} (hr : Right b) (hb : (id, b) ∈ L) (h : meetsP px py qx qy b) : crT s (inL L) px py qx qy id :=
 ⟨b, hb, fun _ => .inr (meets_told hs hr h)⟩
end Fi
open Go.RowKit Go.Shelf
namespace Gx
open Mem Gr Gs
def insB (id : Nat) (b : Bx) : List (Nat × Bx) → List (Nat × Bx)
 | [] => [(id, b)]
 | p :: t => if id < p.1 then (id, b) :: p :: t else p :: insB id b t
theorem mem_insB {id : Nat} {b : Bx} {L : List (Nat × Bx)} {q : Nat × Bx} : q ∈ insB id b L ↔ q ∈ L ∨ q = (id, b) := by
 induction L with
 | nil => simp [insB]
 | cons p t ih =>
  unfold insB
  split
  ·simp only [List.mem_cons]
   constructor
   ·rintro (h | h | h)
    ·exact .inr h
    ·exact .inl (.inl h)
    ·exact .inl (.inr h)
   ·rintro ((h | h) | h)
    ·exact .inr (.inl h)
    ·exact .inr (.inr h)
    ·exact .inl h
  ·simp only [List.mem_cons, ih]
   constructor
   ·rintro (h | h | h)
    ·exact .inl (.inl h)
    ·exact .inl (.inr h)
    ·exact .inr h
   ·rintro ((h | h) | h)
    ·exact .inl h
    ·exact .inr (.inl h)
    ·exact .inr (.inr h)
def Rise (L : List (Nat × Bx)) : Prop := (L.map (·.1)).Pairwise (· < ·)
theorem Rise.nodup {L : List (Nat × Bx)} (h : Rise L) : (L.map (·.1)).Nodup := List.Pairwise.imp (fun h => Z8) h
theorem Rise.ins {id : Nat} {b : Bx} {L : List (Nat × Bx)} (h : Rise L) (hno : ∀ p ∈ L, p.1 ≠ id) : Rise (insB id b L) := by
 unfold Rise at h ⊢
 induction L with
 | nil => simp [insB]
 | cons p t ih =>
  rw [List.map_cons, List.pairwise_cons] at h
  unfold insB
  have hp := hno p ZA7
  split
  ·rename_i hlt
   rw [List.map_cons, List.pairwise_cons, List.map_cons, List.pairwise_cons]
   refine ⟨fun a ha => ?_, h⟩
   rcases List.mem_cons.1 ha with rfl | ha
   ·exact hlt
   ·have := h.1 a ha; simp only; omega
  ·rename_i hlt
   rw [List.map_cons, List.pairwise_cons]
   refine ⟨fun a ha => ?_, ih h.2 (fun q hq => hno q (by simp [hq]))⟩
   obtain ⟨q, hq, rfl⟩ := List.mem_map.1 ha
   rcases mem_insB.1 hq with hq | rfl
   ·exact h.1 _ (List.mem_map.2 ⟨q, hq, rfl⟩)
   ·simp only; omega
theorem Rise.del {id : Nat} {L : List (Nat × Bx)} (h : Rise L) : Rise (delB id L) := by
 unfold Rise at h ⊢
 exact h.sublist (List.Sublist.map _ List.filter_sublist)
theorem insB_length (id : Nat) (b : Bx) (L : List (Nat × Bx)) : (insB id b L).length = L.length + 1 := by
 induction L with
 | nil => rfl
 | cons p t ih =>
  unfold insB
  split
  ·simp
  ·simp [ih]
theorem Rise.filt {L : List (Nat × Bx)} (h : Rise L) (f : Nat × Bx → Bool) : ((L.filter f).map (·.1)).Pairwise (· < ·) := by
 unfold Rise at h
 exact h.sublist (List.Sublist.map _ List.filter_sublist)
theorem len_eq {α : Type} {A B : List α} (ha : A.Nodup) (hb : B.Nodup) (h : ∀ x, x ∈ A ↔ x ∈ B) : A.length = B.length := by
 have h1 := ha.length_le_of_subset (l₂ := B) (fun x hx => (h x).1 hx)
 have h2 := hb.length_le_of_subset (l₂ := A) (fun x hx => (h x).2 hx)
 omega
/-! answers -/
/-! the column -/
/-! cells -/
def old (s : Int) (pre : List (Nat × Bx)) (c : Cl) : Bool := pre.any fun p => decide (cnt s p.2 ≤ 1024) && decide (covers s p.2 c)
end Gx
open Go.RowKit
namespace Mem
end Mem
open Go.RowKit Go.Shelf
namespace Fq
open Mem Gr Gs Fi
open Gx (insB Rise)
def bxd (p : Nat × Bx) : List Value := [.int .u32 (p.1 : Int), .int .i32 p.2.x0, .int .i32 p.2.y0, .int .i32 p.2.x1, .int .i32 p.2.y1]
def bxdL (L : List (Nat × Bx)) : List Value := L.flatMap bxd
theorem bxInfo : (Tryz.prog.info? 77).map (fun i => (i.zero, i.size, i.bytes)) = some (some (.agg #[.int .u32 0, .int .i32 0, .int .i32 0, .int .i32 0, .int .i32 0]), 5, 20) := by kernel_rfl
theorem elBx : ElT Tryz.prog 31 77 bxd 5 := by
 obtain ⟨i0, hi0, hz0, hz1, hz2⟩ := info_parts bxInfo
 exact ⟨Tryz.underlying31, ⟨i0, _, hi0, hz0, hz1, Z8, rfl⟩, ZAH, fun _ => rfl, fun x u hu => by simp [bxd] at hu; rcases hu with rfl | rfl | rfl | rfl | rfl <;> rfl⟩
structure RF (w : World) (R : Nat) (a : Option Addr) (cp : Nat) (L : List (Nat × Bx)) : Prop where
 blk : Blk w R 33 [.slice a L.length cp]
 own : w.ownsRow 0 77 5 (.slice a L.length cp) L.length (bxdL L)
section
variable {w w' : World} {R : Nat} {a : Option Addr} {cp : Nat} {L : List (Nat × Bx)}
theorem RF.keeps {U : Nat → Prop} (h : RF w R a cp L) (hk : Keeps U w w') (hR : ¬ U R) (ho : ∀ k, (Value.slice a L.length cp).ownBlock = some k → ¬ U k) : RF w' R a cp L :=
 ⟨h.blk.keeps hk hR, owns_keeps h.own hk ho⟩
theorem RF.kd (h : RF w R a cp L) (hk : Keeps (fun _ => False) w w') : RF w' R a cp L := h.keeps hk (fun h => h) (fun _ _ h => h)
theorem RF.row (h : RF w R a cp L) {i : Nat} {p : Nat × Bx} (hp : L[i]? = some p) : ∃ g, a = some ⟨g, 0, none⟩ ∧ ∀ j u, (bxd p)[j]? = some u → w.cell? ⟨g, i * 5 + j, none⟩ = some u := by
 have hi : i < L.length := (List.getElem?_eq_some_iff.1 hp).1
 have hO := h.own
 rcases hO.2 with ⟨_, h0⟩ | ⟨g, cap, cur, hv, _, _, _⟩
 ·omega
 ·simp only [Value.slice.injEq] at hv
  refine ⟨g, hv.1, fun j u hj => ?_⟩
  have hj5 : j < 5 := by have := (List.getElem?_eq_some_iff.1 hj).1; simpa [bxd] using this
  have hfc := flat_cell (f := bxd) (fun x => rfl) L i j hj5 p hp
  have hc := hO.cells (g := g) (by rw [hv.1]; rfl) (i * 5 + j) u (by unfold bxdL; rw [hfc, hj])
  rw [Addr.add_mid, Nat.zero_add] at hc
  exact hc
theorem RF.five {g : Nat} (h : RF w R (some ⟨g, 0, none⟩) cp L) {i : Nat} {p : Nat × Bx} (hp : L[i]? = some p) :
 w.cell? ⟨g, i * 5, none⟩ = some (.int .u32 (p.1 : Int)) ∧ w.cell? ⟨g, i * 5 + 1, none⟩ = some (.int .i32 p.2.x0) ∧ w.cell? ⟨g, i * 5 + 2, none⟩ = some (.int .i32 p.2.y0) ∧ w.cell? ⟨g, i * 5 + 3, none⟩ = some (.int .i32 p.2.x1) ∧ w.cell? ⟨g, i * 5 + 4, none⟩ = some (.int .i32 p.2.y1) := by
 obtain ⟨g', hg, hc⟩ := h.row hp
 cases hg
 exact ⟨hc 0 _ rfl, hc 1 _ rfl, hc 2 _ rfl, hc 3 _ rfl, hc 4 _ rfl⟩
end
theorem drop_at {L : List (Nat × Bx)} {i : Nat} {p : Nat × Bx} (hp : L[i]? = some p) : L.drop i = p :: L.drop (i + 1) := by
 have hil : i < L.length := (List.getElem?_eq_some_iff.1 hp).1
 rw [List.drop_eq_getElem_cons hil]
 rw [List.getElem?_eq_getElem hil] at hp
 cases hp; rfl
theorem take_at {L : List (Nat × Bx)} {i : Nat} {p : Nat × Bx} (hp : L[i]? = some p) : L.take (i + 1) = L.take i ++ [p] := by
 rw [List.take_add_one, hp]; rfl
def AtQ (L : List (Nat × Bx)) (id i : Nat) (b : Bool) : Prop :=
 i ≤ L.length ∧ (∀ j p, j < i → L[j]? = some p → p.1 < id) ∧ (∀ p, L[i]? = some p → id ≤ p.1) ∧ (b = true ↔ ∃ p, L[i]? = some p ∧ p.1 = id)
theorem at_r (w : World) (R : Nat) (a : Option Addr) (cp : Nat) (L : List (Nat × Bx)) (h : RF w R a cp L) (hl : L.length ≤ 1000000) (id : Nat) :
 Calls Tryz.prog 28 #[.pointer (some ⟨R, 0, none⟩), .int .u32 (id : Int)] w fun e w' => ∃ (i : Nat) (b : Bool), e = .returned (.tuple #[.int .i64 (i : Int), .bool b]) ∧ AtQ L id i b ∧ Keeps (fun _ => False) w w' := by
 obtain ⟨n, hn⟩ := ZE L.length
 rw [← hn] at hl
 have hnI : (n : Int) ≤ 1000000 := by omega
 have cR := h.blk.cell
 rw [← hn] at cR
 have HN := Lib.hid hn
 have H := Lib.hid h
 clear hn h hl
 go_enter Tryz.func28, Tryz.ntmps28
 go_wp2
 go_loopw [6] (fun q wr => ∃ i : Nat, q = .int .i64 (i : Int) ∧ i ≤ n ∧ (∀ j p, j < i → L[j]? = some p → p.1 < id) ∧ wr = w) (fun q _ => n - (intOf q).toNat)
 case atStart => exact ⟨0, rfl, Nat.zero_le _, fun j p hj => Z8, rfl⟩
 case round =>
  obtain ⟨i, rfl, hi, hno, rfl⟩ := hrel
  have HO := Lib.hid hno
  clear hno
  by_cases hlt : i < n
  ·obtain ⟨p, hp⟩ : ∃ p, L[i]? = some p := ⟨_, List.getElem?_eq_getElem ZAs⟩
   obtain ⟨g, rfl, hc⟩ := H.out.row hp
   have c0 := hc 0 _ rfl
   simp only [Nat.add_zero] at c0
   have hltI : (i : Int) < (n : Int) := by omega
   have HP := Lib.hid hp
   clear hp hc
   by_cases he : p.1 < id
   ·have heI : (p.1 : Int) < (id : Int) := by omega
    have HE := Lib.hid he
    clear he
    go_wp2
    go_roundw
    case rel =>
     refine ⟨i + 1, ZAm, Z8, fun j q hj hq => ?_, by trivial⟩
     rcases Nat.lt_or_ge j i with h1 | h1
     ·exact HO.out j q h1 hq
     ·have : j = i := by omega
      subst this
      rw [HP.out] at hq
      cases hq
      exact HE.out
    case measure => simp only [intOf]; omega
   ·have heI : ¬ (p.1 : Int) < (id : Int) := by omega
    have HE := Lib.hid he
    clear he
    go_wp2
    by_cases h2 : p.1 = id
    ·have h2I : (p.1 : Int) = (id : Int) := by omega
     have H2 := Lib.hid h2
     rw [h2I] at c0
     clear h2 heI h2I
     go_region
     all_goals
      go_wp2
      go_ret2
      exact ⟨i, true, rfl, ⟨ZAs, HO.out, fun q hq => by rw [HP.out] at hq; cases hq; have := H2.out; omega, by simp only [true_iff]; exact ⟨p, HP.out, H2.out⟩⟩, ZA2⟩
    ·have h2I : ((p.1 : Int) == (id : Int)) = false := by simp; omega
     have H2 := Lib.hid h2
     clear h2 heI
     go_region
     all_goals
      go_wp2
      go_ret2
      exact ⟨i, false, rfl, ⟨ZAs, HO.out, fun q hq => by rw [HP.out] at hq; cases hq; have := HE.out; omega, by simp only [Bool.false_eq_true, false_iff]; rintro ⟨q, hq, e⟩; rw [HP.out] at hq; cases hq; exact H2.out e⟩, ZA2⟩
  ·have hge : i = n := by omega
   subst hge
   go_wp2
   go_region
   all_goals
    go_wp2
    go_ret2
    have hnone : L[i]? = none := by rw [HN.out]; simp
    exact ⟨i, false, rfl, ⟨ZAs, HO.out, fun q hq => (by rw [hnone] at hq; cases hq), by simp only [Bool.false_eq_true, false_iff]; rintro ⟨q, hq, _⟩; rw [hnone] at hq; cases hq⟩, ZA2⟩
/-! the two lists -/
theorem ins_at {id : Nat} {b : Bx} : ∀ {L : List (Nat × Bx)} {i : Nat}, (∀ p ∈ L.take i, p.1 < id) → (∀ p ∈ L.drop i, id < p.1) → L.take i ++ ((id, b) :: L.drop i) = insB id b L
 | [], i, _, _ => by simp [insB]
 | p :: L, 0, _, h => by simp [insB, h p ZA7]
 | p :: L, i + 1, h1, h2 => by
  have hp := h1 p ZA7
  have ih := ins_at (b := b) (L := L) (i := i) (fun q hq => h1 q (by simp [hq])) (fun q hq => h2 q (by simpa using hq))
  rw [List.take_succ_cons, List.drop_succ_cons, List.cons_append, ih]
  simp [insB, show ¬ id < p.1 by omega]
theorem mem_take_at {L : List (Nat × Bx)} {id i : Nat} {b : Bool} (h : AtQ L id i b) : ∀ p ∈ L.take i, p.1 < id := fun p hp => by
 obtain ⟨j, hj, e⟩ := List.getElem_of_mem hp
 rw [List.getElem_take] at e
 have hl : j < L.length := by have := hj; simp at this; omega
 exact h.2.1 j p (by simp at hj; omega) (by rw [List.getElem?_eq_getElem hl, e])
theorem rise_drop {L : List (Nat × Bx)} (hr : Rise L) {i : Nat} {p : Nat × Bx} (hp : L[i]? = some p) : ∀ q ∈ L.drop (i + 1), p.1 < q.1 := fun q hq => by
 have h1 : Rise (L.drop i) := List.Pairwise.sublist ((List.drop_sublist i L).map _) hr
 rw [drop_at hp] at h1
 unfold Rise at h1
 rw [List.map_cons, List.pairwise_cons] at h1
 exact h1.1 _ (List.mem_map_of_mem hq)
theorem no_at {L : List (Nat × Bx)} (hr : Rise L) {id i : Nat} (h : AtQ L id i false) : (∀ p ∈ L, p.1 ≠ id) ∧ ∀ p ∈ L.drop i, id < p.1 := by
 have hd : ∀ p ∈ L.drop i, id < p.1 := fun p hp => by
  cases hq : L[i]? with
  | none =>
   have : L.length ≤ i := List.getElem?_eq_none_iff.1 hq
   rw [List.drop_of_length_le this] at hp; cases hp
  | some q =>
   have h3 := h.2.2.1 q hq
   have h4 : q.1 ≠ id := fun e => by have := h.2.2.2.2 ⟨q, hq, e⟩; cases this
   rw [drop_at hq] at hp
   rcases List.mem_cons.1 hp with rfl | hp
   ·omega
   ·have := rise_drop hr hq p hp; omega
 refine ⟨fun p hp => ?_, hd⟩
 rw [← List.take_append_drop i L] at hp
 rcases List.mem_append.1 hp with hp | hp
 ·have := mem_take_at h p hp; omega
 ·have := hd p hp; omega
theorem yes_at {L : List (Nat × Bx)} (hr : Rise L) {id i : Nat} (h : AtQ L id i true) : (∃ p ∈ L, p.1 = id) ∧ i < L.length ∧ L.take i ++ L.drop (i + 1) = delB id L := by
 obtain ⟨p, hp, rfl⟩ := h.2.2.2.1 rfl
 refine ⟨⟨p, List.mem_of_getElem? hp, rfl⟩, (List.getElem?_eq_some_iff.1 hp).1, ?_⟩
 unfold delB
 conv => rhs; rw [← List.take_append_drop i L, drop_at hp]
 rw [List.filter_append, List.filter_cons, if_neg ZA7]
 congr 1
 ·exact (List.filter_eq_self.2 fun q hq => by have := mem_take_at h q hq; simp; omega).symm
 ·exact (List.filter_eq_self.2 fun q hq => by have := rise_drop hr hp q hq; simp; omega).symm
end Fq
open Go.RowKit Go.Shelf
namespace Mem
def Src (w : World) (v : Value) (m : Nat) (news : List Value) : Prop := (v = .slice none 0 0 ∧ m = 0) ∨ ∃ x mc, v = .slice (some x) m mc ∧ ∀ j u, news[j]? = some u → w.cell? (x.add j) = some u
theorem app_src {P : Program} {T e : TypeId} {α : Type} {f : α → List Value} {size : Nat} (hE : ElT P T e f size) {ops : Array Oper} {rest : List Oper} {o : Oper} {a : Act} {w : World} {Q : Exit → Act → World → Prop} (hgd : o.guard = none) (s x : Operand)
 (ho : o.op = .call { callee := .builtin .append, args := #[s, x], argTypes := #[T, T] }) (base : Nat) (l : List α) (n : Nat) (la : Option Addr) (lc : Nat) (hs : a.eval s = .slice la n lc) (hO : w.ownsRow base e size (.slice la n lc) n (l.flatMap f))
 (p : List α) (m : Nat) (hm : m = p.length) (v : Value) (hx : a.eval x = v) (hsrc : Src w v m (p.flatMap f)) (hl : n + m ≤ 1000000000) (hb : base ≤ w.heap.size)
 (k : Nat) (hk : n + m = k) (q : List α) (hq : l ++ p = q)
 (h : ∀ la' cap' w', w'.ownsRow base e size (.slice la' k cap') k (q.flatMap f) → w.grownBy w' (Value.slice la n lc).ownBlock → wpList P ops Q rest (a.put o.dst (.slice la' k cap')) w') :
 wpList P ops Q (o :: rest) a w := by
 subst hk
 subst hq
 obtain ⟨i, z, hi, hz, h1, h2, h3⟩ := hE.info
 rcases hsrc with ⟨rfl, rfl⟩ | ⟨ad, mc, rfl, hnew⟩
 ·have hp : p = [] := List.eq_nil_of_length_eq_zero hm.symm
  subst hp
  refine wpList_plain hgd fun K hK => ?_
  have hr := run_append_owned_none (P := P) w base T o.type e i size hE.row hi (.slice la n lc) n (l.flatMap f) hO
  unfold Oper.wp execOp
  simp only [ho, resolve, invoke, builtin, Sem.run_bind, Sem.run_pure, Result.andThen_ok, List.map_toArray, List.map_cons, List.map_nil, hs, hx, hr]
  exact hK _ _ (h la lc w (by simpa using hO) ⟨rfl, rfl, rfl, Nat.le_refl _, fun _ _ _ => rfl⟩)
 ·refine wpList_append_own_at w hgd s x T ho base e i z size i.bytes hE.row hi hz h1 rfl h3 hE.pos (.slice la n lc) n (l.flatMap f) hs hO ad m mc (p.flatMap f) hx (by rw [flatMap_len hE.len, hm]) hnew (fun u hu => by obtain ⟨y, _, hy⟩ := List.mem_flatMap.1 hu; exact hE.one y u hy) ZAx ?_ hb ?_
  ·have := Nat.mul_le_mul hl h2
   omega
  ·intro v' w' hown hgrow _ _
   have e2 : (l ++ p).flatMap f = l.flatMap f ++ p.flatMap f := by simp
   obtain ⟨a', c', rfl⟩ := own_slice hown
   exact h a' c' w' (by rw [e2]; exact hown) hgrow
end Mem
namespace Fq
open Mem Gr Gs Fi
open Gx (insB Rise)
theorem rin11_t (x y : Int) (w : World) : Calls Tryz.prog 38 #[.agg #[.int .i32 x, .int .i32 y]] w fun e w' => e = .returned (.bool (decide (On x y))) ∧ w.alloc (.cells #[.int .i32 x, .int .i32 y] 37) = w' := by
 unfold On B0
 by_cases h1 : -1073741823 ≤ x <;> by_cases h2 : x ≤ 1073741823 <;> by_cases h3 : -1073741823 ≤ y <;> by_cases h4 : y ≤ 1073741823
 all_goals try (exfalso; omega)
 all_goals
  simp only [h1, h2, h3, h4, and_true, and_false, decide_true, decide_false]
  go_enter Tryz.func38, Tryz.ntmps38
  go_wp2
  go_ret
  exact ⟨rfl, rfl⟩
theorem right_r (b : Bx) (w : World) : Calls Tryz.prog 27 #[.agg #[.int .i32 b.x0, .int .i32 b.y0, .int .i32 b.x1, .int .i32 b.y1]] w fun e w' => e = .returned (.bool (decide (Right b))) ∧ Keeps (fun _ => False) w w' := by
 have z1 := rin11_t b.x0 b.y0
 have z2 := rin11_t b.x1 b.y1
 have key : Right b ↔ On b.x0 b.y0 ∧ On b.x1 b.y1 ∧ b.x0 ≤ b.x1 ∧ b.y0 ≤ b.y1 := Iff.rfl
 simp only [key]
 clear key
 by_cases h1 : On b.x0 b.y0
 ·by_cases h2 : On b.x1 b.y1
  ·simp only [h1, h2, decide_true, true_and] at z1 z2 ⊢
   have HI := Lib.hid (And.intro z1 z2)
   clear z1 z2 h1 h2
   by_cases h3 : b.x0 ≤ b.x1
   all_goals
    simp only [h3, true_and, false_and, decide_true, decide_false]
    exact Ze
  ·simp only [h1, h2, decide_true, decide_false, true_and, false_and] at z1 z2 ⊢
   have HI := Lib.hid (And.intro z1 z2)
   clear z1 z2 h1 h2
   exact Ze
 ·simp only [h1, decide_false, false_and] at z1 ⊢
  have HI := Lib.hid (And.intro z1 z1)
  clear z1 z2 h1
  exact Ze
theorem at_ex : ∀ (L : List (Nat × Bx)) (id : Nat), ∃ i b, AtQ L id i b
 | [], id => ⟨0, false, Nat.le_refl _, fun j p hj => Z8, fun p hp => by simp at hp, ZA7⟩
 | p :: L, id => by
  by_cases h : p.1 < id
  ·obtain ⟨i, b, h1, h2, h3, h4⟩ := at_ex L id
   refine ⟨i + 1, b, ZAV, fun j q hj hq => ?_, fun q hq => h3 q (by simpa using hq), by simpa using h4⟩
   cases j with
   | zero => simp at hq; subst hq; exact h
   | succ j => exact h2 j q Z8 (by simpa using hq)
  ·refine ⟨0, decide (p.1 = id), Nat.zero_le _, fun j q hj => Z8, fun q hq => ?_, ZA7⟩
   simp at hq; subst hq; omega
theorem at_one {L : List (Nat × Bx)} {id i j : Nat} {b c : Bool} (h : AtQ L id i b) (k : AtQ L id j c) : i = j ∧ b = c := by
 have e : i = j := by
  rcases Nat.lt_trichotomy i j with hlt | rfl | hlt
  ·have hl : i < L.length := by have := k.1; omega
   have h1 := k.2.1 i _ hlt (List.getElem?_eq_getElem hl)
   have h2 := h.2.2.1 _ (List.getElem?_eq_getElem hl)
   omega
  ·rfl
  ·have hl : j < L.length := by have := h.1; omega
   have h1 := h.2.1 j _ hlt (List.getElem?_eq_getElem hl)
   have h2 := k.2.2.1 _ (List.getElem?_eq_getElem hl)
   omega
 subst e
 refine ⟨rfl, ?_⟩
 have := h.2.2.2.trans k.2.2.2.symm
 cases b <;> cases c <;> simp_all
theorem at_is {w : World} {R : Nat} {a : Option Addr} {cp : Nat} {L : List (Nat × Bx)} (h : RF w R a cp L) (hl : L.length ≤ 1000000) {id i : Nat} {b : Bool} (hA : AtQ L id i b) :
 Calls Tryz.prog 28 #[.pointer (some ⟨R, 0, none⟩), .int .u32 (id : Int)] w fun e w' => e = .returned (.tuple #[.int .i64 (i : Int), .bool b]) ∧ Keeps (fun _ => False) w w' := by
 refine (at_r w R a cp L h hl id).mono ?_
 rintro e w' ⟨j, c, rfl, hB, hk⟩
 obtain ⟨rfl, rfl⟩ := at_one hA hB
 exact ⟨rfl, hk⟩
def DidD (R : Nat) (a : Option Addr) (cp : Nat) (L L' : List (Nat × Bx)) (w w' : World) : Prop :=
 ∃ a' cp', RF w' R a' cp' L' ∧ Keeps (fun k => k = R) w w' ∧ ∀ k, (Value.slice a' L'.length cp').ownBlock = some k → w.heap.size ≤ k ∨ (Value.slice a L.length cp).ownBlock = some k
theorem did_store {w W : World} {R : Nat} {a : Option Addr} {cp : Nat} {L L' : List (Nat × Bx)} {la : Option Addr} {lc m : Nat} (h : RF w R a cp L) (hk : Keeps (fun _ => False) w W) (hO : W.ownsRow w.heap.size 77 5 (.slice la m lc) m (bxdL L')) (hm : m = L'.length) :
 DidD R a cp L L' w (W.setCell ⟨R, 0, none⟩ (.slice la m lc)) := by
 subst hm
 have hB := h.blk.keeps hk (fun h => h)
 refine ⟨la, lc, ⟨?_, ?_⟩, Keeps.setCell (S := fun k => k = R) (hk.mono (fun _ _ h => h.elim)) (p := ⟨R, 0, none⟩) (fun _ => rfl) _, fun k hk' => .inl (hO.lt k hk').1⟩
 ·have := hB.set_ 0 (.slice la L'.length lc)
  simpa using this
 ·refine owns_keeps (own_mono hO (Nat.zero_le _)) (Keeps.setCell (S := fun k => k = R) (Keeps.refl _ W) (p := ⟨R, 0, none⟩) (fun _ => rfl) _) (fun b hb e => ?_)
  have := (hO.lt b hb).1
  have := h.blk.lt
  omega
theorem put_142 (w : World) (R : Nat) (b : Bx) (hb : ¬ Right b) (id : Nat) :
 Calls Tryz.prog 22 #[.pointer (some ⟨R, 0, none⟩), .int .u32 (id : Int), .agg #[.int .i32 b.x0, .int .i32 b.y0, .int .i32 b.x1, .int .i32 b.y1]] w fun e w' => e = .returned (.int .i64 142) ∧ Keeps (fun _ => False) w w' := by
 have zr := right_r b
 simp only [hb, decide_false] at zr
 have ZR := Lib.hid zr
 clear hb zr
 go_enter Tryz.func22, Tryz.ntmps22
 go_wp2_with (go_at_call 27; (with_reducible refine (ZR.out _).mono ?_); rintro e w1 ⟨rfl, hk1⟩; have HK1 := Lib.hid (((Keeps.refl (fun _ => False) w).alloc (.cells #[.int .i32 b.x0, .int .i32 b.y0, .int .i32 b.x1, .int .i32 b.y1] 39)).trans hk1); have HB1 := Lib.hid ((Blk.new w 39 [.int .i32 b.x0, .int .i32 b.y0, .int .i32 b.x1, .int .i32 b.y1]).keeps hk1 (fun h => h)); clear hk1)
 go_ret
 exact ⟨rfl, HK1.out⟩
theorem put_140 (w : World) (R : Nat) (a : Option Addr) (cp : Nat) (L : List (Nat × Bx)) (h : RF w R a cp L) (hl : L.length ≤ 1000000) (id i : Nat) (hA : AtQ L id i true) (b : Bx) (hb : Right b) :
 Calls Tryz.prog 22 #[.pointer (some ⟨R, 0, none⟩), .int .u32 (id : Int), .agg #[.int .i32 b.x0, .int .i32 b.y0, .int .i32 b.x1, .int .i32 b.y1]] w fun e w' => e = .returned (.int .i64 140) ∧ Keeps (fun _ => False) w w' := by
 have zr := right_r b
 simp only [hb, decide_true] at zr
 have ZR := Lib.hid zr
 have HAt := Lib.hid (fun W (hK : Keeps (fun _ => False) w W) => at_is (h.kd hK) hl hA)
 have H := Lib.hid h
 clear hb zr h hl hA
 go_enter Tryz.func22, Tryz.ntmps22
 go_wp2_with (first | (go_at_call 27; (with_reducible refine (ZR.out _).mono ?_); rintro e w1 ⟨rfl, hk1⟩; have HK1 := Lib.hid (((Keeps.refl (fun _ => False) w).alloc (.cells #[.int .i32 b.x0, .int .i32 b.y0, .int .i32 b.x1, .int .i32 b.y1] 39)).trans hk1); have HB1 := Lib.hid ((Blk.new w 39 [.int .i32 b.x0, .int .i32 b.y0, .int .i32 b.x1, .int .i32 b.y1]).keeps hk1 (fun h => h)); clear hk1) | (go_at_call 28; (with_reducible refine (HAt.out _ HK1.out).mono ?_); rintro e w2 ⟨rfl, hk2⟩; have HKB := Lib.hid hk2; have HK2 := Lib.hid (HK1.out.trans hk2); have cB := (HB1.out.keeps hk2 (fun h => h)).cell; have cR := (H.out.kd (HK1.out.trans hk2)).blk.cell; (try rw [← HN.out.1] at cR); clear hk2))
 go_ret
 exact ⟨rfl, HK2.out⟩
theorem put_5 (w : World) (R : Nat) (a : Option Addr) (cp : Nat) (L : List (Nat × Bx)) (h : RF w R a cp L) (hl : L.length ≤ 1000000) (id i : Nat) (hA : AtQ L id i false) (b : Bx) (hb : Right b) (hf : 65536 ≤ L.length) :
 Calls Tryz.prog 22 #[.pointer (some ⟨R, 0, none⟩), .int .u32 (id : Int), .agg #[.int .i32 b.x0, .int .i32 b.y0, .int .i32 b.x1, .int .i32 b.y1]] w fun e w' => e = .returned (.int .i64 5) ∧ Keeps (fun _ => False) w w' := by
 have zr := right_r b
 simp only [hb, decide_true] at zr
 have ZR := Lib.hid zr
 have HAt := Lib.hid (fun W (hK : Keeps (fun _ => False) w W) => at_is (h.kd hK) hl hA)
 have H := Lib.hid h
 obtain ⟨n, hn⟩ : ∃ n : Int, (L.length : Int) = n := ⟨_, rfl⟩
 have hnf : (65536 : Int) ≤ n := by omega
 clear hb zr h hl hA hf
 go_enter Tryz.func22, Tryz.ntmps22
 go_wp2_with (first | (go_at_call 27; (with_reducible refine (ZR.out _).mono ?_); rintro e w1 ⟨rfl, hk1⟩; have HK1 := Lib.hid (((Keeps.refl (fun _ => False) w).alloc (.cells #[.int .i32 b.x0, .int .i32 b.y0, .int .i32 b.x1, .int .i32 b.y1] 39)).trans hk1); have HB1 := Lib.hid ((Blk.new w 39 [.int .i32 b.x0, .int .i32 b.y0, .int .i32 b.x1, .int .i32 b.y1]).keeps hk1 (fun h => h)); clear hk1) | (go_at_call 28; (with_reducible refine (HAt.out _ HK1.out).mono ?_); rintro e w2 ⟨rfl, hk2⟩; have HKB := Lib.hid hk2; have HK2 := Lib.hid (HK1.out.trans hk2); have cB := (HB1.out.keeps hk2 (fun h => h)).cell; have cR := (H.out.kd (HK1.out.trans hk2)).blk.cell; (try rw [← HN.out.1] at cR); clear hk2))
 go_ret
 exact ⟨rfl, HK2.out⟩
theorem put_ok (w : World) (R : Nat) (a : Option Addr) (cp : Nat) (L : List (Nat × Bx)) (h : RF w R a cp L) (hl : L.length < 65536) (hr : Rise L) (id i : Nat) (hA : AtQ L id i false) (b : Bx) (hb : Right b) :
 Calls Tryz.prog 22 #[.pointer (some ⟨R, 0, none⟩), .int .u32 (id : Int), .agg #[.int .i32 b.x0, .int .i32 b.y0, .int .i32 b.x1, .int .i32 b.y1]] w fun e w' => e = .returned (.int .i64 0) ∧ DidD R a cp L (insB id b L) w w' := by
 have zr := right_r b
 simp only [hb, decide_true] at zr
 have ZR := Lib.hid zr
 have HAt := Lib.hid (fun W (hK : Keeps (fun _ => False) w W) => at_is (h.kd hK) Z8 hA)
 have H := Lib.hid h
 obtain ⟨n, hn⟩ := ZE L.length
 have hin : i ≤ n := by have := hA.1; omega
 have hinI : (i : Int) ≤ n := by omega
 have hi0 : (0 : Int) ≤ i := by omega
 have HN := Lib.hid (And.intro hn (And.intro hA hr))
 have hnf : ((65536 : Int) ≤ (n : Int)) = False := eq_false Z8
 have HE := Lib.hid (show i = (L.take i).length ∧ i ≤ 65536 from ⟨ZAV, Z8⟩)
 have HD := Lib.hid (show n - i = (L.drop i).length ∧ i + 1 + (n - i) ≤ 1000000000 ∧ i + 1 + (n - i) = n + 1 ∧ L.take i ++ [(id, b)] ++ L.drop i = insB id b L from by
  refine ⟨by simp [hn], Z8, Z8, ?_⟩
  rw [List.append_assoc]
  exact ins_at (mem_take_at hA) (no_at hr hA).2)
 rcases h.own.2 with ⟨e1, e2⟩ | ⟨g, cap, cur, e1, _, _, hcap, _⟩
 ·simp only [Value.slice.injEq] at e1
  obtain ⟨rfl, e3, rfl⟩ := e1
  obtain rfl : L = [] := List.eq_nil_of_length_eq_zero e3
  obtain rfl : n = 0 := hn
  obtain rfl : i = 0 := by omega
  have HS1 := Lib.hid (show ∀ W, Keeps (fun _ => False) w W → Src W (.slice none 0 0) 0 (([] : List (Nat × Bx)).flatMap bxd) from fun W hk => .inl ⟨rfl, rfl⟩)
  clear hb zr h hl hr hA e2 e3 hin hinI hi0
  go_enter Tryz.func22, Tryz.ntmps22
  go_wp2_with (first | (go_at_call 27; (with_reducible refine (ZR.out _).mono ?_); rintro e w1 ⟨rfl, hk1⟩; have HK1 := Lib.hid (((Keeps.refl (fun _ => False) w).alloc (.cells #[.int .i32 b.x0, .int .i32 b.y0, .int .i32 b.x1, .int .i32 b.y1] 39)).trans hk1); have HB1 := Lib.hid ((Blk.new w 39 [.int .i32 b.x0, .int .i32 b.y0, .int .i32 b.x1, .int .i32 b.y1]).keeps hk1 (fun h => h)); clear hk1) | (go_at_call 28; (with_reducible refine (HAt.out _ HK1.out).mono ?_); rintro e w2 ⟨rfl, hk2⟩; have HKB := Lib.hid hk2; have HK2 := Lib.hid (HK1.out.trans hk2); have cB := (HB1.out.keeps hk2 (fun h => h)).cell; have cR := (H.out.kd (HK1.out.trans hk2)).blk.cell; (try rw [← HN.out.1] at cR); clear hk2) | (at_builtin; refine app_src elBx rfl (.tmp 26) (.tmp 32) rfl w.heap.size [] 0 none 0 rfl (World.ownsRow_nil _ _ _ _) [] 0 rfl _ rfl (HS1.out _ HK2.out) ZAH HK2.out.size 0 rfl [] rfl ?_; intro la1 lc1 w3 hown hgrow; have HK3 := Lib.hid (HK2.out.grown (S := fun _ => False) hgrow (fun k hk e => by cases e)); have HO3 := Lib.hid hown; have cB3 := (HB1.out.keeps (HKB.out.grown (S := fun _ => False) hgrow (fun k hk e => by cases e)) (fun h => h)).cell; clear cB cR hown hgrow) | (at_builtin; refine app_f elBx rfl (.tmp 34) (.tmp 38) rfl w.heap.size [] 0 la1 lc1 rfl (HO3.out.alloc _) (id, b) w3.heap.size rfl (by exact Mem.news_new w3 _ [_, _, _, _, _]) ZAH ((HK3.out.alloc _).size) ?_; intro g4 lc4 w4 hown hgrow; have HK4 := Lib.hid ((HK3.out.alloc _).grown hgrow (fun k hk e => absurd (HO3.out.lt k e).1 Z8)); have HO4 := Lib.hid hown; have cR := (H.out.kd HK4.out).blk.cell; clear cB3 hown hgrow) | (at_builtin; refine app_src elBx rfl (.tmp 41) (.tmp 47) rfl w.heap.size [(id, b)] 1 _ _ rfl HO4.out [] 0 rfl _ rfl (HS1.out _ HK4.out) ZAH HK4.out.size 1 rfl [(id, b)] rfl ?_; intro la5 lc5 w5 hown hgrow; have HK5 := Lib.hid (HK4.out.grown hgrow (fun k hk e => absurd (HO4.out.lt k e).1 Z8)); have HO5 := Lib.hid hown; have fR := (H.out.kd HK5.out).blk.frozen 0; clear cR hown hgrow; have cR := (H.out.kd HK5.out).blk.cell))
  go_ret
  exact ⟨rfl, did_store H.out HK5.out HO5.out rfl⟩
 ·simp only [Value.slice.injEq] at e1
  obtain ⟨rfl, -, rfl⟩ := e1
  rw [← hn] at hcap
  have hicp : i ≤ cp := by omega
  have hicpI : (i : Int) ≤ cp := by omega
  have hc : ∀ W, Keeps (fun _ => False) w W → ∀ j u, (bxdL L)[j]? = some u → W.cell? ⟨g, j, none⟩ = some u := fun W hk j u hj => by
   have := (h.kd hk).own.cells (g := g) rfl j u hj
   rwa [Addr.add_mid, Nat.zero_add] at this
  have HS1 := Lib.hid (show ∀ W, Keeps (fun _ => False) w W → Src W (.slice (some ⟨g, 0, none⟩) i cp) i ((L.take i).flatMap bxd) from fun W hk => .inr ⟨_, _, rfl, fun j u hj => by
   rw [← flat_take (f := bxd) (k := 5) (fun _ => rfl), List.getElem?_take] at hj
   split at hj
   ·rw [Addr.add_mid, Nat.zero_add]; exact hc W hk j u hj
   ·cases hj⟩)
  clear hb zr h hl hr hA hn
  by_cases hci : cp = i
  ·obtain rfl : n = i := by omega
   subst hci
   have HS2 := Lib.hid (show ∀ W, Keeps (fun _ => False) w W → Src W (.slice (some ⟨g, 0, none⟩) 0 0) 0 ((L.drop cp).flatMap bxd) from fun W hk => .inr ⟨_, _, rfl, fun j u hj => by
    rw [HN.out.1, List.drop_length] at hj
    simp at hj⟩)
   have HD2 := Lib.hid (show 0 = (L.drop cp).length ∧ cp + 1 ≤ 1000000000 ∧ L.take cp ++ [(id, b)] ++ L.drop cp = insB id b L from ⟨by have := HD.out.1; omega, by have := HD.out.2.1; omega, HD.out.2.2.2⟩)
   clear hc hcap
   go_enter Tryz.func22, Tryz.ntmps22
   go_wp2_with (first | (go_at_call 27; (with_reducible refine (ZR.out _).mono ?_); rintro e w1 ⟨rfl, hk1⟩; have HK1 := Lib.hid (((Keeps.refl (fun _ => False) w).alloc (.cells #[.int .i32 b.x0, .int .i32 b.y0, .int .i32 b.x1, .int .i32 b.y1] 39)).trans hk1); have HB1 := Lib.hid ((Blk.new w 39 [.int .i32 b.x0, .int .i32 b.y0, .int .i32 b.x1, .int .i32 b.y1]).keeps hk1 (fun h => h)); clear hk1) | (go_at_call 28; (with_reducible refine (HAt.out _ HK1.out).mono ?_); rintro e w2 ⟨rfl, hk2⟩; have HKB := Lib.hid hk2; have HK2 := Lib.hid (HK1.out.trans hk2); have cB := (HB1.out.keeps hk2 (fun h => h)).cell; have cR := (H.out.kd (HK1.out.trans hk2)).blk.cell; (try rw [← HN.out.1] at cR); clear hk2) | (at_builtin; refine app_src elBx rfl (.tmp 26) (.tmp 32) rfl w.heap.size [] 0 none 0 rfl (World.ownsRow_nil _ _ _ _) (L.take cp) cp HE.out.1 _ rfl (HS1.out _ HK2.out) ZAv HK2.out.size cp (Nat.zero_add cp) (L.take cp) rfl ?_; intro la1 lc1 w3 hown hgrow; have HK3 := Lib.hid (HK2.out.grown (S := fun _ => False) hgrow (fun k hk e => by cases e)); have HO3 := Lib.hid hown; have cB3 := (HB1.out.keeps (HKB.out.grown (S := fun _ => False) hgrow (fun k hk e => by cases e)) (fun h => h)).cell; clear cB cR hown hgrow) | (at_builtin; refine app_f elBx rfl (.tmp 34) (.tmp 38) rfl w.heap.size (L.take cp) cp la1 lc1 rfl (HO3.out.alloc _) (id, b) w3.heap.size rfl (by exact Mem.news_new w3 _ [_, _, _, _, _]) ZAv ((HK3.out.alloc _).size) ?_; intro g4 lc4 w4 hown hgrow; have HK4 := Lib.hid ((HK3.out.alloc _).grown hgrow (fun k hk e => absurd (HO3.out.lt k e).1 Z8)); have HO4 := Lib.hid hown; have cR := (H.out.kd HK4.out).blk.cell; rw [← HN.out.1] at cR; clear cB3 hown hgrow) | (at_builtin; refine app_src elBx rfl (.tmp 41) (.tmp 47) rfl w.heap.size (L.take cp ++ [(id, b)]) (cp + 1) _ _ rfl HO4.out (L.drop cp) 0 HD2.out.1 _ rfl (HS2.out _ HK4.out) HD2.out.2.1 HK4.out.size (cp + 1) rfl (insB id b L) HD2.out.2.2 ?_; intro la5 lc5 w5 hown hgrow; have HK5 := Lib.hid (HK4.out.grown hgrow (fun k hk e => absurd (HO4.out.lt k e).1 Z8)); have HO5 := Lib.hid hown; have fR := (H.out.kd HK5.out).blk.frozen 0; clear cR hown hgrow; have cR := (H.out.kd HK5.out).blk.cell))
   go_ret
   exact ⟨rfl, did_store H.out HK5.out HO5.out (by rw [Gx.insB_length, ← HN.out.1])⟩
  ·have HS2 := Lib.hid (show ∀ W, Keeps (fun _ => False) w W → Src W (.slice (some ⟨g, i * 5, none⟩) (n - i) (cp - i)) (n - i) ((L.drop i).flatMap bxd) from fun W hk => .inr ⟨_, _, rfl, fun j u hj => by
    rw [← flat_drop (f := bxd) (k := 5) (fun _ => rfl), List.getElem?_drop] at hj
    rw [Addr.add_mid]; exact hc W hk _ u hj⟩)
   clear hc
   go_enter Tryz.func22, Tryz.ntmps22
   go_wp2_with (first | (go_at_call 27; (with_reducible refine (ZR.out _).mono ?_); rintro e w1 ⟨rfl, hk1⟩; have HK1 := Lib.hid (((Keeps.refl (fun _ => False) w).alloc (.cells #[.int .i32 b.x0, .int .i32 b.y0, .int .i32 b.x1, .int .i32 b.y1] 39)).trans hk1); have HB1 := Lib.hid ((Blk.new w 39 [.int .i32 b.x0, .int .i32 b.y0, .int .i32 b.x1, .int .i32 b.y1]).keeps hk1 (fun h => h)); clear hk1) | (go_at_call 28; (with_reducible refine (HAt.out _ HK1.out).mono ?_); rintro e w2 ⟨rfl, hk2⟩; have HKB := Lib.hid hk2; have HK2 := Lib.hid (HK1.out.trans hk2); have cB := (HB1.out.keeps hk2 (fun h => h)).cell; have cR := (H.out.kd (HK1.out.trans hk2)).blk.cell; (try rw [← HN.out.1] at cR); clear hk2) | (at_builtin; refine app_src elBx rfl (.tmp 26) (.tmp 32) rfl w.heap.size [] 0 none 0 rfl (World.ownsRow_nil _ _ _ _) (L.take i) i HE.out.1 _ rfl (HS1.out _ HK2.out) ZAv HK2.out.size i (Nat.zero_add i) (L.take i) rfl ?_; intro la1 lc1 w3 hown hgrow; have HK3 := Lib.hid (HK2.out.grown (S := fun _ => False) hgrow (fun k hk e => by cases e)); have HO3 := Lib.hid hown; have cB3 := (HB1.out.keeps (HKB.out.grown (S := fun _ => False) hgrow (fun k hk e => by cases e)) (fun h => h)).cell; clear cB cR hown hgrow) | (at_builtin; refine app_f elBx rfl (.tmp 34) (.tmp 38) rfl w.heap.size (L.take i) i la1 lc1 rfl (HO3.out.alloc _) (id, b) w3.heap.size rfl (by exact Mem.news_new w3 _ [_, _, _, _, _]) ZAv ((HK3.out.alloc _).size) ?_; intro g4 lc4 w4 hown hgrow; have HK4 := Lib.hid ((HK3.out.alloc _).grown hgrow (fun k hk e => absurd (HO3.out.lt k e).1 Z8)); have HO4 := Lib.hid hown; have cR := (H.out.kd HK4.out).blk.cell; rw [← HN.out.1] at cR; clear cB3 hown hgrow) | (at_builtin; refine app_src elBx rfl (.tmp 41) (.tmp 47) rfl w.heap.size (L.take i ++ [(id, b)]) (i + 1) _ _ rfl HO4.out (L.drop i) (n - i) HD.out.1 _ rfl (HS2.out _ HK4.out) HD.out.2.1 HK4.out.size (n + 1) HD.out.2.2.1 (insB id b L) HD.out.2.2.2 ?_; intro la5 lc5 w5 hown hgrow; have HK5 := Lib.hid (HK4.out.grown hgrow (fun k hk e => absurd (HO4.out.lt k e).1 Z8)); have HO5 := Lib.hid hown; have fR := (H.out.kd HK5.out).blk.frozen 0; clear cR hown hgrow; have cR := (H.out.kd HK5.out).blk.cell))
   go_ret
   exact ⟨rfl, did_store H.out HK5.out HO5.out (by rw [Gx.insB_length, ← HN.out.1])⟩
theorem del_141 (w : World) (R : Nat) (a : Option Addr) (cp : Nat) (L : List (Nat × Bx)) (h : RF w R a cp L) (hl : L.length ≤ 1000000) (id i : Nat) (hA : AtQ L id i false) :
 Calls Tryz.prog 23 #[.pointer (some ⟨R, 0, none⟩), .int .u32 (id : Int)] w fun e w' => e = .returned (.int .i64 141) ∧ Keeps (fun _ => False) w w' := by
 have HAt := Lib.hid (at_is h hl hA)
 clear h hl hA
 go_enter Tryz.func23, Tryz.ntmps23
 go_wp2_with (go_at_call 28; (with_reducible refine HAt.out.mono ?_); rintro e w2 ⟨rfl, hk2⟩; have HK2 := Lib.hid hk2; clear hk2)
 go_ret
 exact ⟨rfl, HK2.out⟩
theorem del_ok (w : World) (R : Nat) (a : Option Addr) (cp : Nat) (L : List (Nat × Bx)) (h : RF w R a cp L) (hl : L.length ≤ 65536) (hr : Rise L) (id i : Nat) (hA : AtQ L id i true) :
 Calls Tryz.prog 23 #[.pointer (some ⟨R, 0, none⟩), .int .u32 (id : Int)] w fun e w' => e = .returned (.int .i64 0) ∧ DidD R a cp L (delB id L) w w' := by
 have HAt := Lib.hid (at_is h Z8 hA)
 have H := Lib.hid h
 obtain ⟨-, hlt, hdel⟩ := yes_at hr hA
 obtain ⟨n, hn⟩ := ZE L.length
 rw [← hn] at hlt hl
 have hinI : (i : Int) < n := by omega
 have hin1 : (i : Int) + 1 ≤ n := by omega
 have hi0 : (0 : Int) ≤ i := by omega
 have hi1 : (0 : Int) ≤ (i : Int) + 1 := by omega
 have hw1 : IntKind.i64.wrap ((i : Int) + 1) = (i : Int) + 1 := IntWalk.i64_in _ Z8
 have HN := Lib.hid hn
 have HE := Lib.hid (show i = (L.take i).length ∧ i ≤ 65536 from ⟨ZAV, Z8⟩)
 rcases h.own.2 with ⟨e1, e2⟩ | ⟨g, cap, cur, e1, _, _, hcap, _⟩
 ·simp only [Value.slice.injEq] at e1
  omega
 ·simp only [Value.slice.injEq] at e1
  obtain ⟨rfl, -, rfl⟩ := e1
  rw [← hn] at hcap
  have hicp : i ≤ cp := by omega
  have hicpI : (i : Int) ≤ cp := by omega
  have hin2 : i + 1 ≤ n := by omega
  have hc : ∀ W, Keeps (fun _ => False) w W → ∀ j u, (bxdL L)[j]? = some u → W.cell? ⟨g, j, none⟩ = some u := fun W hk j u hj => by
   have := (h.kd hk).own.cells (g := g) rfl j u hj
   rwa [Addr.add_mid, Nat.zero_add] at this
  have HS1 := Lib.hid (show ∀ W, Keeps (fun _ => False) w W → Src W (.slice (some ⟨g, 0, none⟩) i cp) i ((L.take i).flatMap bxd) from fun W hk => .inr ⟨_, _, rfl, fun j u hj => by
   rw [← flat_take (f := bxd) (k := 5) (fun _ => rfl), List.getElem?_take] at hj
   split at hj
   ·rw [Addr.add_mid, Nat.zero_add]; exact hc W hk j u hj
   ·cases hj⟩)
  have hb1 : i + (n - (i + 1)) ≤ 1000000000 := by omega
  clear h hl hr hA hn
  by_cases hci : cp = i + 1
  ·obtain rfl : n = i + 1 := by omega
   subst hci
   have HS2 := Lib.hid (show ∀ W, Keeps (fun _ => False) w W → Src W (.slice (some ⟨g, 0, none⟩) 0 0) 0 ((L.drop (i + 1)).flatMap bxd) from fun W hk => .inr ⟨_, _, rfl, fun j u hj => by
    rw [HN.out, List.drop_length] at hj
    simp at hj⟩)
   have HD := Lib.hid (show 0 = (L.drop (i + 1)).length ∧ i + 0 ≤ 1000000000 ∧ L.take i ++ L.drop (i + 1) = delB id L from ⟨by rw [HN.out]; simp, ZAv, hdel⟩)
   clear hc hcap hdel hb1
   go_enter Tryz.func23, Tryz.ntmps23
   go_wp2_with (first | (go_at_call 28; (with_reducible refine HAt.out.mono ?_); rintro e w2 ⟨rfl, hk2⟩; have HK2 := Lib.hid hk2; have cR := (H.out.kd hk2).blk.cell; rw [← HN.out] at cR; clear hk2) | (at_builtin; refine app_src elBx rfl (.tmp 16) (.tmp 22) rfl w.heap.size [] 0 none 0 rfl (World.ownsRow_nil _ _ _ _) (L.take i) i HE.out.1 _ rfl (HS1.out _ HK2.out) ZAv HK2.out.size i (Nat.zero_add i) (L.take i) rfl ?_; intro la1 lc1 w3 hown hgrow; have HK3 := Lib.hid (HK2.out.grown (S := fun _ => False) hgrow (fun k hk e => by cases e)); have HO3 := Lib.hid hown; clear cR; have cR := (H.out.kd HK3.out).blk.cell; rw [← HN.out] at cR; clear hown hgrow) | (at_builtin; refine app_src elBx rfl (.tmp 25) (.tmp 32) rfl w.heap.size (L.take i) i _ _ rfl HO3.out (L.drop (i + 1)) (0) HD.out.1 _ rfl (HS2.out _ HK3.out) HD.out.2.1 HK3.out.size (i + (0)) rfl (delB id L) HD.out.2.2 ?_; intro la5 lc5 w5 hown hgrow; have HK5 := Lib.hid (HK3.out.grown hgrow (fun k hk e => absurd (HO3.out.lt k e).1 Z8)); have HO5 := Lib.hid hown; have fR := (H.out.kd HK5.out).blk.frozen 0; clear cR hown hgrow; have cR := (H.out.kd HK5.out).blk.cell))
   go_ret
   refine ⟨rfl, did_store H.out HK5.out HO5.out ?_⟩
   have := HD.out.2.2; rw [← this, List.length_append, ← HE.out.1, ← HD.out.1]
   all_goals rfl
  ·have HS2 := Lib.hid (show ∀ W, Keeps (fun _ => False) w W → Src W (.slice (some ⟨g, (i + 1) * 5, none⟩) (n - (i + 1)) (cp - (i + 1))) (n - (i + 1)) ((L.drop (i + 1)).flatMap bxd) from fun W hk => .inr ⟨_, _, rfl, fun j u hj => by
    rw [← flat_drop (f := bxd) (k := 5) (fun _ => rfl), List.getElem?_drop] at hj
    rw [Addr.add_mid]; exact hc W hk _ u hj⟩)
   have HD := Lib.hid (show n - (i + 1) = (L.drop (i + 1)).length ∧ i + (n - (i + 1)) ≤ 1000000000 ∧ L.take i ++ L.drop (i + 1) = delB id L from ⟨by rw [HN.out]; simp, hb1, hdel⟩)
   clear hc hdel hb1
   go_enter Tryz.func23, Tryz.ntmps23
   go_wp2_with (first | (go_at_call 28; (with_reducible refine HAt.out.mono ?_); rintro e w2 ⟨rfl, hk2⟩; have HK2 := Lib.hid hk2; have cR := (H.out.kd hk2).blk.cell; rw [← HN.out] at cR; clear hk2) | (at_builtin; refine app_src elBx rfl (.tmp 16) (.tmp 22) rfl w.heap.size [] 0 none 0 rfl (World.ownsRow_nil _ _ _ _) (L.take i) i HE.out.1 _ rfl (HS1.out _ HK2.out) ZAv HK2.out.size i (Nat.zero_add i) (L.take i) rfl ?_; intro la1 lc1 w3 hown hgrow; have HK3 := Lib.hid (HK2.out.grown (S := fun _ => False) hgrow (fun k hk e => by cases e)); have HO3 := Lib.hid hown; clear cR; have cR := (H.out.kd HK3.out).blk.cell; rw [← HN.out] at cR; clear hown hgrow) | (at_builtin; refine app_src elBx rfl (.tmp 25) (.tmp 32) rfl w.heap.size (L.take i) i _ _ rfl HO3.out (L.drop (i + 1)) (n - (i + 1)) HD.out.1 _ rfl (HS2.out _ HK3.out) HD.out.2.1 HK3.out.size (i + (n - (i + 1))) rfl (delB id L) HD.out.2.2 ?_; intro la5 lc5 w5 hown hgrow; have HK5 := Lib.hid (HK3.out.grown hgrow (fun k hk e => absurd (HO3.out.lt k e).1 Z8)); have HO5 := Lib.hid hown; have fR := (H.out.kd HK5.out).blk.frozen 0; clear cR hown hgrow; have cR := (H.out.kd HK5.out).blk.cell))
   go_ret
   refine ⟨rfl, did_store H.out HK5.out HO5.out ?_⟩
   have := HD.out.2.2; rw [← this, List.length_append, ← HE.out.1, ← HD.out.1]
   all_goals rfl
end Fq
open Go.RowKit Go.Shelf
namespace Fi
open Mem Gr Gs
def Told (w w' : World) (V : List Nat) (e : Ending) : Prop := ∃ VB, e = .returned (.func (.func 92) #[] #[.pointer (some ⟨VB, 0, none⟩)]) ∧ Keeps (fun _ => False) w w' ∧ Vals w.heap.size w' VB V
theorem nil_vals {w W : World} (hk : Keeps (fun _ => False) w W) : Keeps (fun _ => False) w (W.alloc (.cells #[.slice none 0 0] 45)) ∧ Vals w.heap.size (W.alloc (.cells #[.slice none 0 0] 45)) W.heap.size [] :=
 ⟨hk.alloc _, hk.size, none, 0, Blk.new W 45 [.slice none 0 0], World.ownsRow_nil _ _ _ _⟩
theorem at_off_g (w : World) (G r1 r2 r3 : Nat) (s : Int) (L : List (Nat × Bx)) (A : List Nat) (M : List CE) (h : GridM w G r1 r2 r3 s L A M) (px py : Int) (hp : ¬ On px py) :
 Calls Tryz.prog 117 #[.pointer (some ⟨G, 0, none⟩), .agg #[.int .i32 px, .int .i32 py]] w fun e w' => Told w w' [] e := by
 have z := pin_t px py
 simp only [hp, decide_false] at z
 have HT := Lib.hid h
 clear h hp
 go_enter Tryz.func117, Tryz.ntmps117
 go_wp2_with (first
  | (go_at_call 122; refine (there_t _ (HT.out.blk.alloc _)).mono ?_; rintro e w1 ⟨rfl, rfl⟩)
  | (go_at_call 85; refine (z _).mono ?_; rintro e w4 ⟨rfl, hw⟩; have HK4 := Lib.hid (show Keeps (fun _ => False) w w4 from ZAI); clear hw)
  | (go_at_call 81; with_reducible refine (values_any _ _ _ _).mono ?_; rintro e w2 ⟨rfl, rfl⟩))
 go_ret
 exact ⟨_, rfl, nil_vals HK4.out⟩
theorem cross_off_g (w : World) (G r1 r2 r3 : Nat) (s : Int) (L : List (Nat × Bx)) (A : List Nat) (M : List CE) (h : GridM w G r1 r2 r3 s L A M) (px py qx qy : Int) (hm : ¬ (On px py ∧ On qx qy)) :
 Calls Tryz.prog 118 #[.pointer (some ⟨G, 0, none⟩), .agg #[.int .i32 px, .int .i32 py], .agg #[.int .i32 qx, .int .i32 qy]] w fun e w' => Told w w' [] e := by
 have z0 := fun W (hk : Keeps (fun _ => False) w W) => there_t W (h.blk.keeps hk (fun h => h))
 have z1 := pin_t px py
 have z2 := pin_t qx qy
 by_cases hp : On px py
 ·have hq : ¬ On qx qy := fun h => hm ⟨hp, h⟩
  simp only [hp, hq, decide_true, decide_false] at z1 z2
  have HT := Lib.hid h
  clear h hp hq hm
  go_enter Tryz.func118, Tryz.ntmps118
  go_wp2_with (first
   | (go_at_call 122; refine (z0 _ Z4).mono ?_; rintro e w1 ⟨rfl, rfl⟩)
   | (go_at_call 85; (with_reducible refine (z1 _).mono ?_); rintro e w1 ⟨rfl, rfl⟩)
   | (go_at_call 85; (with_reducible refine (z2 _).mono ?_); rintro e w4 ⟨rfl, hw⟩; have HK4 := Lib.hid (show Keeps (fun _ => False) w w4 from ZAI); clear hw)
   | (go_at_call 81; with_reducible refine (values_any _ _ _ _).mono ?_; rintro e w2 ⟨rfl, rfl⟩))
  go_ret
  exact ⟨_, rfl, nil_vals HK4.out⟩
 ·simp only [hp, decide_false] at z1
  clear z2 hm hp
  go_enter Tryz.func118, Tryz.ntmps118
  go_wp2_with (first
   | (go_at_call 122; refine (z0 _ Z4).mono ?_; rintro e w1 ⟨rfl, rfl⟩)
   | (go_at_call 85; (with_reducible refine (z1 _).mono ?_); rintro e w4 ⟨rfl, hw⟩; have HK4 := Lib.hid (show Keeps (fun _ => False) w w4 from ZAI); clear hw)
   | (go_at_call 81; with_reducible refine (values_any _ _ _ _).mono ?_; rintro e w2 ⟨rfl, rfl⟩))
  go_ret
  exact ⟨_, rfl, nil_vals HK4.out⟩
section
variable {w : World} {G : Nat} {s : Int} {L : List (Nat × Bx)} {n : Nat} {F : Nat → Prop}
theorem gd_at3 (h : Gd w G s (inL L) n F) (ho : OkL L) (hs : Size s) (hn : n ≤ 65536) (px py : Int) : Calls Tryz.prog 117 #[.pointer (some ⟨G, 0, none⟩), .agg #[.int .i32 px, .int .i32 py]] w fun e w' => ∃ V, Told w w' V e ∧ V.length ≤ 65536 ∧ ∀ id b, (id, b) ∈ L → coversP px py b → id ∈ V := by
 by_cases hp : On px py
 ·refine Calls.mono (gd_at w G s hs _ n F h hn px py hp) ?_
  rintro e w' ⟨VB, V, rfl, g1, g2, g3, _, g5⟩
  refine ⟨V, ⟨VB, rfl, g1, g2⟩, ?_, fun id b hb hc => (g5 id).2 (grid_at hs hb hc)⟩
  obtain ⟨r1, r2, r3, L0, A, M, h1, h2, h3, h4⟩ := h
  have := told_len h2 g3 (fun id hi => by obtain ⟨b, hb, _⟩ := (g5 id).1 hi; exact ⟨b, hb⟩)
  omega
 ·obtain ⟨r1, r2, r3, L', A, M, h1, h2, h3, h4⟩ := h
  refine Calls.mono (at_off_g w G r1 r2 r3 s L' A M h1 px py hp) ?_
  intro e w' ht
  exact ⟨[], ht, ZA7, fun id b hb hc => absurd (covers_on (ho.right _ hb) hc) hp⟩
theorem gd_cr3 (h : Gd w G s (inL L) n F) (ho : OkL L) (hs : Size s) (hn : n ≤ 65536) (px py qx qy : Int) : Calls Tryz.prog 118 #[.pointer (some ⟨G, 0, none⟩), .agg #[.int .i32 px, .int .i32 py], .agg #[.int .i32 qx, .int .i32 qy]] w fun e w' => ∃ V, Told w w' V e ∧ V.length ≤ 65536 ∧ ∀ id b, (id, b) ∈ L → On px py → On qx qy → meetsP px py qx qy b → id ∈ V := by
 by_cases hp : On px py ∧ On qx qy
 ·refine Calls.mono (gd_cross w G s hs _ n F h hn px py qx qy hp.1 hp.2) ?_
  rintro e w' ⟨VB, V, rfl, g1, g2, g3, _, g5⟩
  refine ⟨V, ⟨VB, rfl, g1, g2⟩, ?_, fun id b hb _ _ hc => (g5 id).2 (grid_cr hs (ho.right _ hb) hb hc)⟩
  obtain ⟨r1, r2, r3, L0, A, M, h1, h2, h3, h4⟩ := h
  have := told_len h2 g3 (fun id hi => by obtain ⟨b, hb, _⟩ := (g5 id).1 hi; exact ⟨b, hb⟩)
  omega
 ·obtain ⟨r1, r2, r3, L', A, M, h1, h2, h3, h4⟩ := h
  refine Calls.mono (cross_off_g w G r1 r2 r3 s L' A M h1 px py qx qy hp) ?_
  intro e w' ht
  exact ⟨[], ht, ZA7, fun id b _ h1 h2 _ => absurd ⟨h1, h2⟩ hp⟩
theorem gd_tight (h : Gd w G s (inL L) n F) : Gd w G s (inL L) L.length F := by
 obtain ⟨r1, r2, r3, L0, A, M, h1, h2, h3, h4⟩ := h
 refine ⟨r1, r2, r3, L0, A, M, h1, h2, ?_, h4⟩
 have hn : (L0.map (·.1)).Nodup := h2.keysL
 have := hn.length_le_of_subset (l₂ := L.map (·.1)) (fun i hi => by
  obtain ⟨⟨j, b⟩, hp, rfl⟩ := List.mem_map.1 hi
  exact List.mem_map.2 ⟨(j, b), (h2.setL _ _).1 hp, rfl⟩)
 simpa using this
theorem gd_put3 (h : Gd w G s (inL L) n F) (hs : Size s) (hn : n ≤ 65536) (id : Nat) (b : Bx) (hb : Right b) (hh : hasB L id = false) :
 Calls Tryz.prog 121 #[.pointer (some ⟨G, 0, none⟩), .int .u32 (id : Int), .agg #[.int .i32 b.x0, .int .i32 b.y0, .int .i32 b.x1, .int .i32 b.y1]] w fun e w' => e = .returned (.int .i64 0) ∧ ∃ F', Gd w' G s (inL (L ++ [(id, b)])) (L ++ [(id, b)]).length F' ∧ Keeps F w w' ∧ ∀ k, F' k → F k ∨ w.heap.size ≤ k := by
 have hno : ∀ x, ¬ inL L id x := fun x hx => by rw [hasB_iff.2 ⟨x, hx⟩] at hh; cases hh
 obtain ⟨r1, r2, r3, L0, A, M, h1, h2, h3, h4⟩ := h
 refine Calls.mono (put_t w G r1 r2 r3 s hs L0 A M h1 (fun e he => by have := ids_le h2 e he; omega) (fun a ha => by obtain ⟨x, hx, _⟩ := (h2.apart a).1 ha; exact (hasB_S h2 a).2 ⟨x, hx⟩) id b) ?_
 rintro e w' ⟨L', A', M', rfl, g1, g2, g3, g4⟩
 have h0 : ¬ hasB L0 id = true := fun e => by obtain ⟨x, hx⟩ := (hasB_S h2 id).1 e; exact hno x hx
 refine ⟨by unfold putE; simp [hb, h0], FpG r1 r2 r3 M', gd_tight (n := L'.length) ⟨r1, r2, r3, L', A', M', g1, (h2.put id b hno g2).congr (fun i x => ?_), Nat.le_refl _, fun _ => Iff.rfl⟩, g3.mono (fun k _ hk => (h4 k).2 hk), ?_⟩
 ·unfold inL
  rw [List.mem_append, List.mem_singleton, Prod.mk.injEq]
  simp [hb]
 ·rintro k (e | e | e | e)
  ·exact .inl ((h4 k).2 (.inl e))
  ·exact .inl ((h4 k).2 (.inr (.inl e)))
  ·exact .inl ((h4 k).2 (.inr (.inr (.inl e))))
  ·exact (g4 k e).imp_left fun h => (h4 k).2 (.inr (.inr (.inr h)))
theorem gd_del3 (h : Gd w G s (inL L) n F) (hs : Size s) (id : Nat) (hh : hasB L id = true) :
 Calls Tryz.prog 119 #[.pointer (some ⟨G, 0, none⟩), .int .u32 (id : Int)] w fun e w' => e = .returned (.int .i64 0) ∧ ∃ F', Gd w' G s (inL (delB id L)) (delB id L).length F' ∧ Keeps F w w' ∧ ∀ k, F' k → F k ∨ w.heap.size ≤ k := by
 obtain ⟨b, hp⟩ := hasB_iff.1 hh
 refine Calls.mono (gd_del w G s hs _ n F h id b hp) ?_
 rintro e w' ⟨rfl, F', g1, g2, g3⟩
 exact ⟨rfl, F', gd_tight (g1.congr (fun j x => by unfold inL; rw [mem_delB])), g2, fun k hk => .inl (g3 k hk)⟩
theorem gd_len3 (h : Gd w G s (inL L) n F) (ho : OkL L) (W : World) (hk : Keeps (fun _ => False) w W) : Calls Tryz.prog 120 #[.pointer (some ⟨G, 0, none⟩)] W fun e w' => e = .returned (.int .i64 (L.length : Int)) ∧ W = w' := by
 have hle := gd_tight h
 obtain ⟨r1, r2, r3, L0, A, M, h1, h2, h3, h4⟩ := h
 have hl : L0.length = L.length := by
  have hn0 : (L0.map (·.1)).Nodup := h2.keysL
  have a1 := hn0.length_le_of_subset (l₂ := L.map (·.1)) (fun i hi => by
   obtain ⟨⟨j, b⟩, hp, rfl⟩ := List.mem_map.1 hi
   exact List.mem_map.2 ⟨(j, b), (h2.setL _ _).1 hp, rfl⟩)
  have a2 := ho.keys.length_le_of_subset (l₂ := L0.map (·.1)) (fun i hi => by
   obtain ⟨⟨j, b⟩, hp, rfl⟩ := List.mem_map.1 hi
   exact List.mem_map.2 ⟨(j, b), (h2.setL _ _).2 hp, rfl⟩)
  simp at a1 a2; omega
 rw [← hl]
 exact len_t W G r1 r2 r3 s L0 A M (h1.kd hk)
end
end Fi
end Go.Proofs.YtdbpfbokfmpgcaaGreat
