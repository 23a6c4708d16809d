/-
MbP: plain: a beginning of a list, by epochs: with a cursor for each epoch, and by the lists of each epoch; no program in sight.
Words for memory that all the walks share: a block known whole, what a call keeps, a load and a store of a whole struct in the middle of a block, a scope with several labels.
-/
import Derived.Test.YtdaindihobfokaaGreatDoorRows
import Derived.WalkKit
import Derived.WalkSpells
import Derived.WalkLawsBesides
import Derived.Deep.QuietTactic
import Derived.BigQuiet
import Derived.Deep.MidRow
import Derived.Lib.Hide
import Derived.Great.BuildSlice
import Derived.Deep.LoopGhost
namespace Go.Proofs.YtdaindihobfokaaGreatDoor
set_option linter.unusedVariables false
set_option linter.unusedSimpArgs false
namespace Mb
section
variable {α : Type} (e : α → Nat) (R : α → α → Bool)
/-- is the first list a beginning of the second? -/
def pref : List α → List α → Bool
  | [], _ => true
  | _ :: _, [] => false
  | a :: A, b :: B => R a b && pref A B
def flt (l : List α) (k : Nat) : List α := l.filter fun p => e p == k
/-- one cursor for each epoch -/
def go : List α → (Nat → List α) → Bool
  | [], _ => true
  | p :: r, st => match st (e p) with
    | [] => false
    | q :: t => R p q && go r (fun k => if k = e p then t else st k)
theorem go_iff : ∀ (rel : List α) (st : Nat → List α), go e R rel st = true ↔ ∀ k, pref R (flt e rel k) (st k) = true
  | [], st => by simp [go, flt, pref]
  | p :: r, st => by
    have hf : ∀ k, flt e (p :: r) k = if e p = k then p :: flt e r k else flt e r k := fun k => by
      unfold flt
      rw [List.filter_cons]
      by_cases h : e p = k <;> simp [h]
    cases hs : st (e p) with
    | nil =>
      constructor
      · intro h; simp [go, hs] at h
      · intro h
        have := h (e p)
        rw [hf, if_pos rfl, hs] at this
        simp [pref] at this
    | cons q t =>
      have ih := go_iff r (fun k => if k = e p then t else st k)
      have e1 : go e R (p :: r) st = (R p q && go e R r (fun k => if k = e p then t else st k)) := by simp [go, hs]
      rw [e1, Bool.and_eq_true, ih]
      constructor
      · rintro ⟨h1, h2⟩ k
        rw [hf]
        by_cases hk : e p = k
        · subst hk
          rw [if_pos rfl, hs]
          have := h2 (e p)
          rw [if_pos rfl] at this
          simp [pref, h1, this]
        · rw [if_neg hk]
          have := h2 k
          rwa [if_neg (fun h => hk h.symm)] at this
      · intro h
        have h0 := h (e p)
        rw [hf, if_pos rfl, hs] at h0
        simp only [pref, Bool.and_eq_true] at h0
        refine ⟨h0.1, fun k => ?_⟩
        by_cases hk : k = e p
        · subst hk; rw [if_pos rfl]; exact h0.2
        · rw [if_neg hk]
          have := h k
          rwa [hf, if_neg (fun h => hk h.symm)] at this
/-- the epochs do not fall -/
def rises : List α → Bool
  | [] => true
  | [_] => true
  | a :: b :: l => decide (e a ≤ e b) && rises (b :: l)
theorem rises_get : ∀ {l : List α}, rises e l = true ↔ ∀ i a b, l[i]? = some a → l[i + 1]? = some b → e a ≤ e b
  | [] => by simp [rises]
  | [x] => by simp [rises]
  | x :: y :: l => by
    have ih := rises_get (l := y :: l)
    rw [rises, Bool.and_eq_true, decide_eq_true_eq, ih]
    constructor
    · rintro ⟨h1, h2⟩ i a b ha hb
      cases i with
      | zero => simp at ha hb; subst ha hb; exact h1
      | succ i => exact h2 i a b (by simpa using ha) (by simpa using hb)
    · intro h
      exact ⟨h 0 x y rfl rfl, fun i a b ha hb => h (i + 1) a b (by simpa using ha) (by simpa using hb)⟩
/-- where an epoch begins -/
def news (l : List α) (i : Nat) : Prop := ∃ a, l[i]? = some a ∧ ∀ b, 0 < i → l[i - 1]? = some b → e b ≠ e a
/-- each epoch of a list begins somewhere -/
theorem news_of {l : List α} {k : Nat} (h : ∃ p ∈ l, e p = k) : ∃ i a, l[i]? = some a ∧ e a = k ∧ news e l i := by
  obtain ⟨p, hp, hk⟩ := h
  obtain ⟨j, hj, rfl⟩ := List.getElem_of_mem hp
  have key : ∀ j (hj : j < l.length), e l[j] = k → ∃ i a, l[i]? = some a ∧ e a = k ∧ news e l i := by
    intro j
    induction j with
    | zero => exact fun hj h => ⟨0, l[0], List.getElem?_eq_getElem hj, h, l[0], List.getElem?_eq_getElem hj, fun b h0 => by omega⟩
    | succ j ih =>
      intro hj h
      by_cases hb : e l[j] = k
      · exact ih (by omega) hb
      · refine ⟨j + 1, l[j + 1], List.getElem?_eq_getElem hj, h, l[j + 1], List.getElem?_eq_getElem hj, fun b _ hb' => ?_⟩
        rw [Nat.add_sub_cancel, List.getElem?_eq_getElem (by omega)] at hb'
        cases hb'
        rw [h]; exact hb
  exact key j hj hk
/-- both roads say the same -/
theorem both {rel log : List α} : (rises e rel = true ∧ go e R rel (flt e log) = true) ↔ rises e rel = true ∧ ∀ i a, rel[i]? = some a → news e rel i → pref R (flt e rel (e a)) (flt e log (e a)) = true := by
  rw [go_iff]
  constructor
  · rintro ⟨h1, h2⟩; exact ⟨h1, fun i a _ _ => h2 (e a)⟩
  · rintro ⟨h1, h2⟩
    refine ⟨h1, fun k => ?_⟩
    by_cases hk : ∃ p ∈ rel, e p = k
    · obtain ⟨i, a, ha, rfl, hn⟩ := news_of e hk
      exact h2 i a ha hn
    · have : flt e rel k = [] := by
        unfold flt
        rw [List.filter_eq_nil_iff]
        intro p hp hpk
        exact hk ⟨p, hp, by simpa using hpk⟩
      rw [this]; rfl
theorem pref_iff : ∀ {A B : List α}, pref R A B = true ↔ A.length ≤ B.length ∧ ∀ (i : Nat) (a b : α), A[i]? = some a → B[i]? = some b → R a b = true
  | [], B => by simp [pref]
  | a :: A, [] => by simp [pref]
  | a :: A, b :: B => by
    rw [pref, Bool.and_eq_true, pref_iff (A := A) (B := B)]
    constructor
    · rintro ⟨h1, h2, h3⟩
      refine ⟨by simp; omega, fun i x y hx hy => ?_⟩
      cases i with
      | zero => simp at hx hy; subst hx hy; exact h1
      | succ i => exact h3 i x y (by simpa using hx) (by simpa using hy)
    · rintro ⟨h1, h2⟩
      exact ⟨h2 0 a b rfl rfl, by simp at h1; omega, fun i x y hx hy => h2 (i + 1) x y (by simpa using hx) (by simpa using hy)⟩
end
end Mb
end Go.Proofs.YtdaindihobfokaaGreatDoor
namespace Go.Proofs.YtdaindihobfokaaGreatDoor
open Go.RowKit
namespace Mem

/-- block b is just the cells cs of element type t, none frozen. -/
def Blk (w : World) (b : Nat) (t : TypeId) (cs : List Value) : Prop := w.heap[b]? = some (.cells cs.toArray t (0, 0))

/-- what existed and lies outside of S is as it was. -/
structure Keeps (S : Nat → Prop) (w w' : World) : Prop where
  os : w'.os = w.os
  tape : w'.tape = w.tape
  output : w'.output = w.output
  size : w.heap.size ≤ w'.heap.size
  block : ∀ k, k < w.heap.size → ¬ S k → w'.heap[k]? = w.heap[k]?

section
variable {w w' w'' : World} {S T : Nat → Prop}
theorem Keeps.refl (S : Nat → Prop) (w : World) : Keeps S w w := ⟨rfl, rfl, rfl, Nat.le_refl _, fun _ _ _ => rfl⟩
theorem Keeps.trans (h : Keeps S w w') (k : Keeps S w' w'') : Keeps S w w'' :=
  ⟨k.os.trans h.os, k.tape.trans h.tape, k.output.trans h.output, Nat.le_trans h.size k.size, fun i hi hn => (k.block i (Nat.lt_of_lt_of_le hi h.size) hn).trans (h.block i hi hn)⟩
theorem Keeps.mono (h : Keeps S w w') (hs : ∀ k, k < w.heap.size → S k → T k) : Keeps T w w' := ⟨h.os, h.tape, h.output, h.size, fun k hk hn => h.block k hk (fun hS => hn (hs k hk hS))⟩
theorem Keeps.then (h : Keeps S w w') (k : Keeps T w' w'') (hs : ∀ i, i < w.heap.size → T i → S i) : Keeps S w w'' :=
  ⟨k.os.trans h.os, k.tape.trans h.tape, k.output.trans h.output, Nat.le_trans h.size k.size, fun i hi hn => (k.block i (Nat.lt_of_lt_of_le hi h.size) (fun hT => hn (hs i hi hT))).trans (h.block i hi hn)⟩
theorem Keeps.of_grown {row : Option Nat} (h : w.grownBy w' row) : Keeps (fun k => some k = row) w w' := ⟨h.os, h.tape, h.output, h.size, fun k hk hn => h.block k hk hn⟩
theorem Keeps.grown {row : Option Nat} (h : Keeps S w w') (g : w'.grownBy w'' row) (hs : ∀ k, k < w.heap.size → row = some k → S k) : Keeps S w w'' :=
  h.then (Keeps.of_grown g) (fun i hi he => hs i hi he.symm)
theorem Keeps.drewN (h : Keeps S w w') (n : Nat) : Keeps S w (w'.drewN n) := ⟨h.os, h.tape, h.output, h.size, h.block⟩
theorem Keeps.drew (h : Keeps S w w') : Keeps S w w'.drew := ⟨h.os, h.tape, h.output, h.size, h.block⟩
theorem Keeps.alloc (h : Keeps S w w') (o : Obj) : Keeps S w (w'.alloc o) :=
  ⟨h.os, h.tape, h.output, by simp; exact Nat.le_succ_of_le h.size, fun k hk hn => (Below.heap_alloc w' o k (Nat.lt_of_lt_of_le hk h.size)).trans (h.block k hk hn)⟩
theorem Keeps.setCell (h : Keeps S w w') {p : Addr} (hp : p.block < w.heap.size → S p.block) (u : Value) : Keeps S w (w'.setCell p u) :=
  ⟨h.os, h.tape, h.output, by simpa [World.setCell] using h.size, fun k hk hn => (Below.heap_setCell w' p u k (by rintro rfl; exact hn (hp hk))).trans (h.block k hk hn)⟩
theorem Keeps.below (h : Keeps S w w') {B : Nat} (hB : B ≤ w.heap.size) (hs : ∀ k, k < B → ¬ S k) : Below B w w' :=
  ⟨h.os, h.tape, h.output, h.size, fun k hk => h.block k (Nat.lt_of_lt_of_le hk hB) (hs k hk)⟩
theorem Keeps.of_below {B : Nat} (h : Below B w w') : Keeps (fun k => B ≤ k) w w' := ⟨h.os, h.tape, h.output, h.size, fun k _ hn => h.block k (by omega)⟩
theorem Keeps.of_below0 (h : Below w.heap.size w w') : Keeps (fun _ => False) w w' := ⟨h.os, h.tape, h.output, h.size, fun k hk _ => h.block k hk⟩
theorem Keeps.cell (h : Keeps S w w') {p : Addr} {v : Value} (hc : w.cell? p = some v) (hn : ¬ S p.block) : w'.cell? p = some v :=
  (World.cell?_of_block (h.block p.block (World.block_lt_of_cell? w p hc) hn)).trans hc

variable {b : Nat} {t : TypeId} {cs : List Value}
theorem Blk.lt (h : Blk w b t cs) : b < w.heap.size := by
  rcases Nat.lt_or_ge b w.heap.size with hlt | hge
  · exact hlt
  · unfold Blk at h; rw [Array.getElem?_eq_none hge] at h; cases h
theorem Blk.cell (h : Blk w b t cs) (i : Nat) : w.cell? ⟨b, i, none⟩ = cs[i]? := by
  rw [cell_of_row w b i _ t (0, 0) h]; simp
theorem Blk.frozen (h : Blk w b t cs) (i : Nat) : w.frozen? ⟨b, i, none⟩ = false := by
  unfold Blk at h
  simp [World.frozen?, h]
theorem Blk.new (w : World) (t : TypeId) (cs : List Value) : Blk (w.alloc (.cells cs.toArray t)) w.heap.size t cs := heap_alloc_new w _
theorem Blk.drew (h : Blk w b t cs) : Blk w.drew b t cs := h
theorem Blk.drewN (h : Blk w b t cs) (n : Nat) : Blk (w.drewN n) b t cs := h
theorem Blk.alloc (h : Blk w b t cs) (o : Obj) : Blk (w.alloc o) b t cs := (Below.heap_alloc w o b h.lt).trans h
theorem Blk.set_ (h : Blk w b t cs) (i : Nat) (u : Value) : Blk (w.setCell ⟨b, i, none⟩ u) b t (cs.set i u) := by
  unfold Blk at h ⊢
  simp [World.setCell, Array.getElem?_modify, h]
theorem Blk.far (h : Blk w b t cs) {p : Addr} (hp : b ≠ p.block) (u : Value) : Blk (w.setCell p u) b t cs := (Below.heap_setCell w p u b hp).trans h
theorem Blk.keeps (h : Blk w b t cs) (k : Keeps S w w') (hn : ¬ S b) : Blk w' b t cs := (k.block b h.lt hn).trans h
theorem Blk.kd (h : Blk w b t cs) (k : Keeps (fun _ => False) w' w'') (he : w'.heap = w.heap := by rfl) : Blk w'' b t cs := by
  have h' : Blk w' b t cs := by unfold Blk at h ⊢; rw [he]; exact h
  exact h'.keeps k (fun h => h)
theorem Keeps.td {w3 : World} (h : Keeps S w w') (k : Keeps T w'' w3) (hs : ∀ i, i < w.heap.size → T i → S i := by simp) (he : w''.heap = w'.heap := by rfl) (h1 : w''.os = w'.os := by rfl) (h2 : w''.tape = w'.tape := by rfl) (h3 : w''.output = w'.output := by rfl) : Keeps S w w3 := by
  have h' : Keeps S w w'' := ⟨h1.trans h.os, h2.trans h.tape, h3.trans h.output, by rw [he]; exact h.size, fun k hk hn => by rw [he]; exact h.block k hk hn⟩
  exact h'.then k hs
theorem Blk.below {B : Nat} (h : Blk w b t cs) (k : Below B w w') (hn : b < B) : Blk w' b t cs := (k.block b hn).trans h
theorem Blk.grown {row : Option Nat} (h : Blk w b t cs) (hb : w.grownBy w' row) (hg : some b ≠ row) : Blk w' b t cs := (hb.block b h.lt hg).trans h
theorem Blk.ne_ {b' : Nat} {t' : TypeId} {cs' : List Value} (h : Blk w b t cs) (h' : Blk w b' t' cs') (hne : t ≠ t') : b ≠ b' := by
  rintro rfl
  unfold Blk at h h'
  rw [h] at h'
  injection h' with h'
  injection h' with _ ht
  exact hne ht
theorem own_ne {base : Nat} {e : TypeId} {size n : Nat} {v : Value} {xs : List Value} (h : w.ownsRow base e size v n xs) (hg : Blk w b t cs) (hne : e ≠ t) : some b ≠ v.ownBlock := by
  rcases h.2 with ⟨rfl, _⟩ | ⟨g', cap, cur, rfl, _, hh, _⟩
  · simp [Value.ownBlock]
  · intro he
    have : b = g' := by simpa [Value.ownBlock] using he
    subst this
    exact Blk.ne_ (t := e) (cs := cur.toList) (by unfold Blk; simpa using hh) hg hne rfl
theorem owns_keeps {base : Nat} {e : TypeId} {size n : Nat} {v : Value} {xs : List Value} (h : w.ownsRow base e size v n xs) (k : Keeps S w w') (hn : ∀ b, v.ownBlock = some b → ¬ S b) : w'.ownsRow base e size v n xs := by
  refine ⟨h.1, ?_⟩
  rcases h.2 with hn' | ⟨g, cap, cur, rfl, hb, hgg, rest⟩
  · exact .inl hn'
  · refine .inr ⟨g, cap, cur, rfl, hb, ?_, rest⟩
    rw [k.block g (Array.getElem?_eq_some_iff.1 hgg).1 (hn g rfl)]
    exact hgg
theorem grown_setCell (w : World) (p : Addr) (u : Value) : w.grownBy (w.setCell p u) (some p.block) :=
  ⟨rfl, rfl, rfl, by simp [World.setCell], fun k _ hk => Below.heap_setCell _ _ _ _ (fun e => hk (by rw [e]))⟩
theorem owns_setCell {base : Nat} {e : TypeId} {size n : Nat} {v : Value} {xs : List Value} (h : w.ownsRow base e size v n xs) {p : Addr} (hp : v.ownBlock ≠ some p.block) (u : Value) : (w.setCell p u).ownsRow base e size v n xs :=
  h.kept (grown_setCell w p u) (.inr hp)
theorem owns_base {base base' : Nat} {e : TypeId} {size n : Nat} {v : Value} {xs : List Value} (h : w.ownsRow base e size v n xs) (hb : base' ≤ base) : w.ownsRow base' e size v n xs := by
  refine ⟨h.1, ?_⟩
  rcases h.2 with hn' | ⟨g, cap, cur, rfl, hb', rest⟩
  · exact .inl hn'
  · exact .inr ⟨g, cap, cur, rfl, Nat.le_trans hb hb', rest⟩
theorem Blk.range (h : Blk w b t cs) (o : Nat) (vs : List Value) (hv : (cs.drop o).take vs.length = vs) : w.rangeAt b o vs := fun j v hj => by
  rw [h.cell]
  have hl : j < vs.length := (List.getElem?_eq_some_iff.1 hj).1
  rw [← hv, List.getElem?_take, if_pos hl, List.getElem?_drop] at hj
  exact hj
end

section
variable {P : Program} {ops : Array Oper} {rest : List Oper} {o : Oper} {a : Act} {w : World} {Q : Exit → Act → World → Prop}
/-- a whole struct is loaded out of the middle of a block. -/
theorem wpList_load_blk (hgd : o.guard = none) (ty : TypeId) (x : Operand) (ho : o.op = .load ty x)
    (b off : Nat) (t : TypeId) (cs vs : List Value) (d : TypeDesc) (hx : a.eval x = .pointer (some ⟨b, off, none⟩)) (hB : Blk w b t cs) (hv : (cs.drop off).take vs.length = vs)
    (hu : P.underlying ty = some d) (hd : d.isRow = true) (hi : (P.info? ty).map (·.size) = some vs.length)
    (h : wpList P ops Q rest (a.put o.dst (.agg vs.toArray)) w) : wpList P ops Q (o :: rest) a w :=
  wpList_load_mid hgd ty x ho b off hx vs d (hB.range off vs hv) hu hd hi h

theorem run_storeVar_blk (w : World) (g off : Nat) (t ty : TypeId) (cs : List Value) (vs : Array Value) (hg : Blk w g t cs) (hi : (P.info? ty).map (·.size) = some vs.size)
    (hf : off + vs.size ≤ cs.length) (h1 : vs.all (·.oneCell') = true) :
    (storeVar ty ⟨g, off, none⟩ (.agg vs)).run P w = .ok () (w.setRow g (cs.take off ++ vs.toList ++ cs.drop (off + vs.size)).toArray) := by
  have := run_storeCells_at P g off t vs.toList 0 cs.toArray w hg (by simpa using hf) (fun v hv => (Array.all_eq_true_iff_forall_mem.1 h1) v (by simpa using hv))
  cases hq : P.info? ty with
  | none => simp [hq] at hi
  | some i =>
    have hs : vs.size = i.size := by simp [hq] at hi; omega
    simp only [Nat.add_zero, Array.length_toList] at this
    simp [storeVar, sizeOf, typeInfo, hq, Value.cells, hs, this]

/-- a whole struct is stored into the middle of a block. -/
theorem wp_store_blk {K : Act → World → Prop} (ty : TypeId) (x y : Operand) (ho : o.op = .store ty x y)
    (b off : Nat) (t : TypeId) (cs : List Value) (vs : Array Value) (hx : a.eval x = .pointer (some ⟨b, off, none⟩)) (hy : a.eval y = .agg vs) (hB : Blk w b t cs)
    (hf : off + vs.size ≤ cs.length) (hi : (P.info? ty).map (·.size) = some vs.size) (h1 : vs.all (·.oneCell') = true)
    (h : ∀ w' : World, Blk w' b t (cs.take off ++ vs.toList ++ cs.drop (off + vs.size)) → w.grownBy w' (some b) → w'.heap.size = w.heap.size → K (a.put o.dst undef) w') : o.wp P a w K Q := by
  unfold Oper.wp execOp
  simp only [ho, hx, hy, Instr.storeAt, Instr.sureAddr, Sem.run_bind, Sem.run_pure, Result.andThen_ok, run_storeVar_blk w b off t ty cs vs hB hi hf h1]
  exact h _ (setRow_heap w b _ _ t _ hB) ⟨rfl, rfl, rfl, by simp, fun k _ hk => setRow_other w b k _ (fun e => hk (by rw [e]))⟩ (by simp)
theorem wpList_store_blk (hgd : o.guard = none) (ty : TypeId) (x y : Operand) (ho : o.op = .store ty x y)
    (b off : Nat) (t : TypeId) (cs : List Value) (vs : Array Value) (hx : a.eval x = .pointer (some ⟨b, off, none⟩)) (hy : a.eval y = .agg vs) (hB : Blk w b t cs)
    (hf : off + vs.size ≤ cs.length) (hi : (P.info? ty).map (·.size) = some vs.size) (h1 : vs.all (·.oneCell') = true)
    (h : ∀ w' : World, Blk w' b t (cs.take off ++ vs.toList ++ cs.drop (off + vs.size)) → w.grownBy w' (some b) → w'.heap.size = w.heap.size → wpList P ops Q rest (a.put o.dst undef) w') : wpList P ops Q (o :: rest) a w :=
  wpList_plain hgd fun _ hK => wp_store_blk ty x y ho b off t cs vs hx hy hB hf hi h1 fun w' h2 h3 h4 => hK _ _ (h w' h2 h3 h4)
end

section
variable {P : Program} {ops : Array Oper} {rest : List Oper} {o : Oper} {a : Act} {w : World} {Q : Exit → Act → World → Prop}
theorem fill_one (s : Nat) (hs : 0 < s) (cells vs : Array Value) (v : Value) (hv : v.cells = vs) (h1 : vs.size = s) (h2 : cells.size = s) : Instr.fill (fun i => some (i * s, s)) cells [(0, v)] = some vs := by
  obtain ⟨r, hr, hsz, hk⟩ := Great.fill_dense (s := s) hs [v] 0 cells (by simp [hv, h1]) (by simp [h2])
  rw [show ([v].zipIdx 0).map (fun x => (x.2, x.1)) = [(0, v)] by simp] at hr
  rw [hr]
  congr 1
  apply Array.ext_getElem?
  intro k
  rw [hk k]
  by_cases hlt : k < s
  · rw [if_pos (by simp; omega), Nat.div_eq_of_lt hlt, Nat.mod_eq_of_lt hlt]; simp [hv]
  · rw [if_neg (by simp; omega), Array.getElem?_eq_none (by omega), Array.getElem?_eq_none (by omega)]
/-- a slice literal of one element. -/
theorem wp_slice1 {K : Act → World → Prop} (t e : TypeId) (x : Operand) (ho : o.op = .buildSlice t 1 #[(0, x)]) (v : Value) (hx : a.eval x = v) (vs : List Value) (hv : v.cells = vs.toArray) (s : Nat)
    (hu : P.underlying t = some (.slice e)) (hsz : (P.info? e).map (·.size) = some s) (hz : ((P.info? e).bind (·.zero)).isSome = true) (hl : vs.length = s) (hs : 0 < s) (hs2 : s ≤ 1000)
    (h : K (a.put o.dst (.slice (some ⟨w.heap.size, 0, none⟩) 1 1)) (w.alloc (.cells vs.toArray e))) : o.wp P a w K Q := by
  cases hie : P.info? e with
  | none => simp [hie] at hsz
  | some ie =>
    simp only [hie, Option.map_some, Option.some.injEq, Option.bind_some] at hsz hz
    obtain ⟨z, hzz⟩ := Option.isSome_iff_exists.1 hz
    refine wp_buildSlice t e 1 #[(0, x)] ho vs.toArray ie z hu hie hzz (by omega) (by omega) ?_ h
    have := fill_one ie.size (by omega) ((Array.range (1 * ie.size)).map (z.cells[· % z.cells.size]!)) vs.toArray v hv (by simp; omega) (by simp)
    simpa [hx] using this
theorem wpList_slice1 (hgd : o.guard = none) (t e : TypeId) (x : Operand) (ho : o.op = .buildSlice t 1 #[(0, x)]) (v : Value) (hx : a.eval x = v) (vs : List Value) (hv : v.cells = vs.toArray) (s : Nat)
    (hu : P.underlying t = some (.slice e)) (hsz : (P.info? e).map (·.size) = some s) (hz : ((P.info? e).bind (·.zero)).isSome = true) (hl : vs.length = s) (hs : 0 < s) (hs2 : s ≤ 1000)
    (h : wpList P ops Q rest (a.put o.dst (.slice (some ⟨w.heap.size, 0, none⟩) 1 1)) (w.alloc (.cells vs.toArray e))) : wpList P ops Q (o :: rest) a w :=
  wpList_plain hgd fun _ hK => wp_slice1 t e x ho v hx vs hv s hu hsz hz hl hs hs2 (hK _ _ h)
end

section
variable {P : Program} {ops : Array Oper} {rest : List Oper} {o : Oper} {a : Act} {w : World} {Q : Exit → Act → World → Prop}
/-- a struct is built: what it is, is a closed fact. -/
theorem wpList_built (hgd : o.guard = none) (t : TypeId) (parts : Array (Nat × Operand)) (ho : o.op = .build t parts)
    (cells : Array Value) (hb : P.built t (parts.map fun (i, x) => (i, a.eval x)).toList = some cells) (h : wpList P ops Q rest (a.put o.dst (.agg cells)) w) : wpList P ops Q (o :: rest) a w :=
  wpList_build hgd t parts ho (by rw [hb]; rfl) (by rw [hb]; exact h)
end
section
variable {P : Program}
theorem run_copy_blk (w : World) (dT sT ty elem : TypeId) (g o dLen dCap : Nat) (a : Addr) (sLen sCap : Nat) (cur : List Value) (t : TypeId) (cs : List Value) (k n : Nat)
    (hu : P.underlying dT = some (.slice elem)) (hs : (P.info? elem).map (·.size) = some k)
    (hg : Blk w g t cur) (hm : Nat.min sLen dLen = n) (hn : cs.length = n * k)
    (hsrc : ∀ j v, cs[j]? = some v → w.cell? (a.add j) = some v) (hfit : o + cs.length ≤ cur.length) (h1 : ∀ v ∈ cs, v.oneCell' = true) :
    (Builtin.copy_ #[dT, sT] ty #[.slice (some ⟨g, o, none⟩) dLen dCap, .slice (some a) sLen sCap]).run P w =
      .ok (goInt n) (w.setRow g (cur.take o ++ cs ++ cur.drop (o + cs.length)).toArray) := by
  have hl := run_loadCells_list (P := P) w a cs hsrc
  have hst := run_storeCells_at P g o t cs 0 cur.toArray w hg (by simpa using hfit) h1
  cases hq : P.info? elem with
  | none => simp [hq] at hs
  | some i =>
    have hi : i.size = k := by simpa [hq] using hs
    simp only [Nat.add_zero] at hst
    rw [hn] at hl
    simp [Builtin.copy_, run_underlying hu, Builtin.lenOf, Builtin.firstCells, sizeOf, typeInfo, hq, hi, hm, hl, hst]
theorem step_copy_blk {ops : Array Oper} {o : Oper} {a : Act} {w : World} {K : Act → World → Prop} {Q : Exit → Act → World → Prop} {E : Prop} (hgd : o.guard = none) (d s : Operand) (dT sT : TypeId)
    (ho : o.op = .call { callee := .builtin .copy, args := #[d, s], argTypes := #[dT, sT] }) (elem : TypeId) (k n : Nat) (hu : P.underlying dT = some (.slice elem)) (hsz : (P.info? elem).map (·.size) = some k)
    (g off dLen dCap : Nat) (ad : Addr) (sLen sCap : Nat) (hd : a.eval d = .slice (some ⟨g, off, none⟩) dLen dCap) (hs : a.eval s = .slice (some ad) sLen sCap)
    (cur : List Value) (t : TypeId) (cs : List Value) (hg : Blk w g t cur) (hm : Nat.min sLen dLen = n) (hn : cs.length = n * k)
    (hsrc : ∀ j v, cs[j]? = some v → w.cell? (ad.add j) = some v) (hfit : off + cs.length ≤ cur.length) (h1 : ∀ v ∈ cs, v.oneCell' = true)
    (h : ∀ w', Blk w' g t (cur.take off ++ cs ++ cur.drop (off + cs.length)) → w.grownBy w' (some g) → K (a.put o.dst (goInt n)) w') :
    if Region.wanted o (yielded ops a.tmps) = true then Oper.wp P o a w K Q else E := by
  have hw : Region.wanted o (yielded ops a.tmps) = true := by simp [Region.wanted, hgd]
  rw [if_pos hw]
  have hrun := run_copy_blk (P := P) w dT sT o.type elem g off dLen dCap ad sLen sCap cur t cs k n hu hsz hg hm hn hsrc hfit h1
  unfold Oper.wp execOp
  simp only [ho, resolve, invoke, builtin, Sem.run_bind, Sem.run_pure, Result.andThen_ok, List.map_toArray, List.map_cons, List.map_nil, hd, hs, hrun]
  exact h _ (setRow_heap w g _ _ t _ hg) ⟨rfl, rfl, rfl, by simp, fun k _ hk => setRow_other w g k _ (fun e => hk (by rw [e]))⟩
end
theorem own_slice {w : World} {base : Nat} {e : TypeId} {size n : Nat} {v : Value} {xs : List Value} (h : w.ownsRow base e size v n xs) : ∃ a c, v = .slice a n c := by
  rcases h.2 with ⟨rfl, rfl⟩ | ⟨g, cap, cur, rfl, _⟩
  · exact ⟨none, 0, rfl⟩
  · exact ⟨_, _, rfl⟩
theorem wpList_append_src {P : Program} {w : World} {ops : Array Oper} {rest : List Oper} {o : Oper} {a : Act} {Q : Exit → Act → World → Prop} (hgd : o.guard = none) (s x : Operand) (t : TypeId)
    (ho : o.op = .call { callee := .builtin .append, args := #[s, x], argTypes := #[t, t] })
    (base : Nat) (e : TypeId) (i : TypeInfo) (z : Value) (size bytes : Nat) (ht : P.underlying t = some (.slice e)) (hi : P.info? e = some i) (hz : i.zero = some z)
    (hsize : i.size = size) (hby : i.bytes = bytes) (hzs : z.cells.size = size) (hsz : 0 < size)
    (v : Value) (n : Nat) (xs : List Value) (hs : a.eval s = v) (hown : w.ownsRow base e size v n xs)
    (v2 : Value) (m : Nat) (news : List Value) (base2 : Nat) (hx : a.eval x = v2) (hsrc : w.ownsRow base2 e size v2 m news) (h1 : ∀ u ∈ news, u.oneCell' = true)
    (h63 : n + m ≤ maxLen) (hbytes : (n + m) * bytes ≤ 140737488355328) (hbase : base ≤ w.heap.size)
    (h0 : ∀ (a' : Option Addr) (c' : Nat) (w' : World), w'.ownsRow base e size (.slice a' (n + m) c') (n + m) (xs ++ news) → w.grownBy w' v.ownBlock → wpList P ops Q rest (a.put o.dst (.slice a' (n + m) c')) w') : wpList P ops Q (o :: rest) a w := by
  have h : ∀ (v' : Value) (w' : World), w'.ownsRow base e size v' (n + m) (xs ++ news) → w.grownBy w' v.ownBlock → wpList P ops Q rest (a.put o.dst v') w' := by
    intro v' w' h1 h2
    obtain ⟨a', c', rfl⟩ := own_slice h1
    exact h0 a' c' w' h1 h2
  rcases hsrc.2 with ⟨rfl, rfl⟩ | ⟨g, cap, cur, rfl, _, _, _⟩
  · have hn : news = [] := List.eq_nil_of_length_eq_zero (by simpa using hsrc.1)
    subst hn
    refine wpList_plain hgd fun K hK => ?_
    have hr := run_append_owned_none (P := P) w base t o.type e i size ht hi v n xs hown
    unfold Oper.wp execOp
    simp only [ho, resolve, invoke, builtin, Sem.run_bind, Sem.run_pure, Result.andThen_ok, List.map_toArray, List.map_cons, List.map_nil, hs, hx, hr]
    exact hK _ _ (h v w (by simpa using hown) ⟨rfl, rfl, rfl, Nat.le_refl _, fun _ _ _ => rfl⟩)
  · exact wpList_append_own w hgd s x t ho base e i z size bytes ht hi hz hsize hby hzs hsz v n xs hs hown ⟨g, 0, none⟩ m cap news hx hsrc.1 (hsrc.cells rfl) h1 h63 hbytes hbase fun v' w' a b _ => h v' w' a b
theorem results_row_tmp {P : Program} {fn : Func} {p u : Tmp} {ty : TypeId} (h : fn.results = #[.cell p ty, .tmp u]) (tmps : Array Value) (w : World) (g : Nat) (t : TypeId) (cs : Array Value) (fr : Nat × Nat) (d : TypeDesc)
    (hp : tmps.getD p undef = .pointer (some ⟨g, 0, none⟩)) (hg : w.heap[g]? = some (.cells cs t fr))
    (hu : P.underlying ty = some d) (hd : (match d with | .struct _ | .array _ _ => true | _ => false) = true) (hi : (P.info? ty).map (·.size) = some cs.size) :
    (results fn tmps).run P w = .ok (.tuple #[.agg cs, tmps.getD u undef]) w := by
  rw [results_cell_tmp h, hp]
  simp [asAddr, run_loadVar_row w g t ty cs fr d hg hu hd hi]
theorem run_make_rowN {P : Program} (t e : TypeId) (i : TypeInfo) (z : Value) (size bytes : Nat) (ht : P.underlying t = some (.slice e)) (hi : P.info? e = some i) (hz : i.zero = some z) (hsz : i.size = size) (hby : i.bytes = bytes)
    (kl kc : IntKind) (n c : Nat) (hnc : n ≤ c) (hbytes : bytes * c ≤ 281474976710656) (h63 : c ≤ 9223372036854775807) (w : World) :
    (Instr.makeSlice t (.int kl (n : Int)) (.int kc (c : Int))).run P w = .ok (.slice (some ⟨w.heap.size, 0, none⟩) n c) (w.alloc (.cells (madeCells z.cells (c * size)) e)) := by
  subst hsz
  have hb : (i.bytes : Int) * (c : Int) ≤ 281474976710656 := by
    rw [hby]
    have h : ((bytes * c : Nat) : Int) ≤ 281474976710656 := by omega
    rwa [Int.natCast_mul] at h
  have hr := run_make (P := P) w t e i z ht hi hz kl kc n c (by omega) (by omega) hb (by omega)
  simp only [Int.toNat_natCast] at hr
  exact hr
/-- a way out of a piece of code: normally, by an exit, by a return; never otherwise. -/
def Outs (N : Act → World → Prop) (X : Nat → Act → World → Prop) (R : Act → World → Prop) : Exit → Act → World → Prop
  | .normal, a, w => N a w
  | .exit n, a, w => X n a w
  | .ret, a, w => R a w
  | _, _, _ => False
section
variable (N : Act → World → Prop) (X : Nat → Act → World → Prop) (R : Act → World → Prop) (a : Act) (w : World)
theorem Outs_normal : Outs N X R .normal a w = N a w := rfl
theorem Outs_exit (n : Nat) : Outs N X R (.exit n) a w = X n a w := rfl
theorem Outs_ret : Outs N X R .ret a w = R a w := rfl
end
attribute [go_sem] Outs_normal Outs_exit Outs_ret
theorem Outs.mono {Q : Exit → Act → World → Prop} {N : Act → World → Prop} {X : Nat → Act → World → Prop} {R : Act → World → Prop}
    (hN : ∀ a w, N a w → Q .normal a w) (hX : ∀ n a w, X n a w → Q (.exit n) a w) (hR : ∀ a w, R a w → Q .ret a w) : ∀ e a w, Outs N X R e a w → Q e a w := by
  intro e a w h
  cases e with
  | normal => exact hN a w h
  | exit n => exact hX n a w h
  | ret => exact hR a w h
  | _ => exact h.elim
/-- the bodies of a code's loops, in the text's order. -/
def loops : Code → List Code
  | .loop c => c :: loops c
  | .seq a b => loops a ++ loops b
  | .block _ c => loops c
  | .scope c => loops c
  | .cond _ a b => loops a ++ loops b
  | .rangeFunc _ _ a b => loops a ++ loops b
  | _ => []
theorem news_new (w : World) (t : TypeId) (cs : List Value) : ∀ j u, cs[j]? = some u → (w.alloc (.cells cs.toArray t)).cell? ((⟨w.heap.size, 0, none⟩ : Addr).add j) = some u := by
  intro j u h
  rw [Addr.add_mid, Nat.zero_add, (Blk.new w t cs).cell]
  exact h
section
variable {α : Type} {f : α → List Value} {k : Nat}
theorem flat_length (hk : ∀ x, (f x).length = k) : ∀ l : List α, (l.flatMap f).length = l.length * k
  | [] => by simp
  | x :: l => by simp [flat_length hk l, hk, Nat.add_mul, Nat.add_comm]
theorem flat_drop (hk : ∀ x, (f x).length = k) : ∀ (l : List α) (i : Nat), (l.flatMap f).drop (i * k) = (l.drop i).flatMap f
  | [], i => by simp
  | x :: l, 0 => by simp
  | x :: l, i + 1 => by
    have h : ((x :: l).flatMap f).drop ((i + 1) * k) = (l.flatMap f).drop (i * k) := by
      rw [List.flatMap_cons, show (i + 1) * k = (f x).length + i * k by rw [hk]; simp [Nat.add_mul, Nat.add_comm], List.drop_append, List.drop_of_length_le (by omega), List.nil_append, Nat.add_sub_cancel_left]
    rw [h, flat_drop hk l i]; simp
theorem flat_take (hk : ∀ x, (f x).length = k) : ∀ (l : List α) (i : Nat), (l.flatMap f).take (i * k) = (l.take i).flatMap f
  | [], i => by simp
  | x :: l, 0 => by simp
  | x :: l, i + 1 => by
    rw [List.flatMap_cons, show (i + 1) * k = (f x).length + i * k by rw [hk]; simp [Nat.add_mul, Nat.add_comm], List.take_append]
    simp only [List.take_succ_cons, List.flatMap_cons]
    rw [List.take_of_length_le (by omega), show (f x).length + i * k - (f x).length = i * k by omega, flat_take hk l i]
theorem flat_get (hk : ∀ x, (f x).length = k) (l : List α) (i : Nat) (x : α) (hx : l[i]? = some x) : ((l.flatMap f).drop (i * k)).take k = f x := by
  rw [flat_drop hk]
  have hi : i < l.length := (List.getElem?_eq_some_iff.1 hx).1
  rw [List.drop_eq_getElem_cons hi]
  have : l[i] = x := (List.getElem?_eq_some_iff.1 hx).2
  rw [this, List.flatMap_cons, ← hk x, List.take_left]
theorem flat_cell (hk : ∀ x, (f x).length = k) (l : List α) (i j : Nat) (hj : j < k) (x : α) (hx : l[i]? = some x) : (l.flatMap f)[i * k + j]? = (f x)[j]? := by
  have h := flat_get hk l i x hx
  rw [← h, List.getElem?_take, if_pos hj, List.getElem?_drop]
theorem flat_set (hk : ∀ x, (f x).length = k) (l : List α) (i : Nat) (x : α) (hi : i < l.length) :
    (l.flatMap f).take (i * k) ++ f x ++ (l.flatMap f).drop (i * k + k) = (l.set i x).flatMap f := by
  rw [flat_take hk, show i * k + k = (i + 1) * k by rw [Nat.add_mul, Nat.one_mul], flat_drop hk, List.set_eq_take_append_cons_drop, if_pos hi]
  simp
end

/-- As Q; by a goto to a label l: J l. -/
def Jumps (J : Nat → Act → World → Prop) (Q : Exit → Act → World → Prop) : Exit → Act → World → Prop
  | .goto l, a, w => J l a w
  | e, a, w => Q e a w
section
variable {P : Program} {a : Act} {w : World} {Q : Exit → Act → World → Prop}
theorem Jumps_ret (J : Nat → Act → World → Prop) : Jumps J Q .ret a w = Q .ret a w := rfl
theorem Jumps_normal (J : Nat → Act → World → Prop) : Jumps J Q .normal a w = Q .normal a w := rfl
theorem Jumps_exit (J : Nat → Act → World → Prop) (id : Nat) : Jumps J Q (.exit id) a w = Q (.exit id) a w := rfl
theorem Jumps_goto (J : Nat → Act → World → Prop) (l : Nat) : Jumps J Q (.goto l) a w = J l a w := rfl
attribute [go_sem] Jumps_ret Jumps_normal Jumps_exit Jumps_goto
theorem wp_scope_labels {c : Code} (J : Nat → Nat → Act → World → Prop)
    (first : c.wp P (Jumps (fun l a w => ∃ m, J l m a w) Q) a w)
    (pass : ∀ l m a w, J l m a w → ∃ rest, findLabel c l = some rest ∧ rest.wp P (Jumps (fun l' a' w' => ∃ m', m' < m ∧ J l' m' a' w') Q) a w) : (Code.scope c).wp P Q a w := by
  intro b k cs
  have key : ∀ n l a w, J l n a w → ∃ rest, findLabel c l = some rest ∧ ∃ e a' w', Q e a' w' ∧ Arrives P (lone (b.at a (.code rest :: .inScope c :: k)) cs w) b k cs e a' w' := by
    intro n
    induction n using Nat.strongRecOn with
    | _ n ih =>
      intro l a w hJ
      obtain ⟨rest, hf, hpass⟩ := pass l n a w hJ
      obtain ⟨e, a₁, w₁, hq, harr⟩ := hpass b (.inScope c :: k) cs
      refine ⟨rest, hf, ?_⟩
      cases e with
      | normal => exact ⟨.normal, a₁, w₁, hq, Steps.trans harr (.one step_inScope)⟩
      | exit id => exact ⟨.exit id, a₁, w₁, hq, fun k' hk => harr k' (by simp [exitTo, hk])⟩
      | goto l' =>
        obtain ⟨m', hlt, hJ'⟩ := hq
        obtain ⟨rest', hf', e₂, a₂, w₂, hq₂, harr₂⟩ := ih m' hlt l' a₁ w₁ hJ'
        have hg : gotoIn l' (.inScope c :: k) = some (.code rest' :: .inScope c :: k) := by simp [gotoIn, hf']
        exact ⟨e₂, a₂, w₂, hq₂, .of_steps (harr _ hg) harr₂⟩
      | ret => exact ⟨_, a₁, w₁, hq, harr⟩
      | panic ch => exact ⟨_, a₁, w₁, hq, harr⟩
      | outgrown => exact ⟨_, a₁, w₁, hq, harr⟩
  obtain ⟨e, a₁, w₁, hq, harr⟩ := first b (.inScope c :: k) cs
  cases e with
  | normal => exact ⟨.normal, a₁, w₁, hq, .head step_scope (Steps.trans harr (.one step_inScope))⟩
  | exit id => exact ⟨.exit id, a₁, w₁, hq, fun k' hk => .head step_scope (harr k' (by simp [exitTo, hk]))⟩
  | goto l' =>
    obtain ⟨m', hJ'⟩ := hq
    obtain ⟨rest', hf', e₂, a₂, w₂, hq₂, harr₂⟩ := key m' l' a₁ w₁ hJ'
    have hg : gotoIn l' (.inScope c :: k) = some (.code rest' :: .inScope c :: k) := by simp [gotoIn, hf']
    exact ⟨e₂, a₂, w₂, hq₂, .of_steps (.head step_scope (harr _ hg)) harr₂⟩
  | ret => exact ⟨_, a₁, w₁, hq, .of_steps (.one step_scope) harr⟩
  | panic ch => exact ⟨_, a₁, w₁, hq, .of_steps (.one step_scope) harr⟩
  | outgrown => exact ⟨_, a₁, w₁, hq, .of_steps (.one step_scope) harr⟩

/-- a frame of n slots, of which some are known. -/
def Fr (a : Act) (n : Nat) (l : List (Nat × Value)) : Prop := a.tmps.size = n ∧ a.defers = [] ∧ ∀ p ∈ l, a.tmps.getD p.1 undef = p.2
theorem cons_of {l : List Value} {n : Nat} (h : l.length = n + 1) : ∃ x r, l = x :: r ∧ r.length = n := by
  cases l with
  | nil => simp at h
  | cons x r => exact ⟨x, r, rfl, by simpa using h⟩
theorem Fr.at_ {a : Act} {n : Nat} {l : List (Nat × Value)} (h : Fr a n l) (i : Nat) (v : Value) (hm : (i, v) ∈ l) : a.tmps.getD i undef = v := h.2.2 (i, v) hm
end
end Mem
end Go.Proofs.YtdaindihobfokaaGreatDoor
