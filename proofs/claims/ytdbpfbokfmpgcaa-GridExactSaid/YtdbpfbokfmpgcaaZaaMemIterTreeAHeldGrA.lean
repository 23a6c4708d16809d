/-
Words for memory that all the walks share: a block known whole, what a call keeps, a load and a store of a whole struct in the middle of a block, a scope with several labels.
A range over a function, by footprints: what the loop's body may write, what the iterator keeps.
slices.Values over numbers: its contract.
Held: some cells of a block, known: they stay known behind a draw, and behind a store elsewhere. Frames of some sizes.
GrA: cells: the small functions at the few places that 'works' comes to.
-/
import Derived.Test.YtdbpfbokfmpgcaaRows
import Derived.WalkKit
import Derived.WalkSpells
import Derived.WalkLawsBesides
import Derived.Deep.QuietTactic
import Derived.BigQuiet
import Derived.Deep.MidRow
import Derived.Lib.Hide
import Derived.Great.BuildSlice
import Derived.Deep.LoopGhost
import Derived.RangeFuncNested
import Derived.RangeFuncBound
import Derived.RangeFuncCalls
import Derived.RangeFuncLeaves
import Derived.OwnWalkIn
import Derived.TacticsInMore
import Derived.LoopNIn
import Derived.LoopIn
import Derived.Deep.RegionHeld3
import Derived.Deep.RegionLaw
import Derived.Shelf.Abstract
namespace Go.Proofs.Ytdbpfbokfmpgcaa
open Go.RowKit
namespace Mem

/-- block b is just the cells cs of element type t, none frozen. -/
def Blk (w : World) (b : Nat) (t : TypeId) (cs : List Value) : Prop := w.heap[b]? = some (.cells cs.toArray t (0, 0))

/-- what existed and lies outside of S is as it was. -/
structure Keeps (S : Nat → Prop) (w w' : World) : Prop where
  os : w'.os = w.os
  tape : w'.tape = w.tape
  output : w'.output = w.output
  size : w.heap.size ≤ w'.heap.size
  block : ∀ k, k < w.heap.size → ¬ S k → w'.heap[k]? = w.heap[k]?

section
variable {w w' w'' : World} {S T : Nat → Prop}
theorem Keeps.refl (S : Nat → Prop) (w : World) : Keeps S w w := ⟨rfl, rfl, rfl, Nat.le_refl _, fun _ _ _ => rfl⟩
theorem Keeps.trans (h : Keeps S w w') (k : Keeps S w' w'') : Keeps S w w'' :=
  ⟨k.os.trans h.os, k.tape.trans h.tape, k.output.trans h.output, Nat.le_trans h.size k.size, fun i hi hn => (k.block i (Nat.lt_of_lt_of_le hi h.size) hn).trans (h.block i hi hn)⟩
theorem Keeps.mono (h : Keeps S w w') (hs : ∀ k, k < w.heap.size → S k → T k) : Keeps T w w' := ⟨h.os, h.tape, h.output, h.size, fun k hk hn => h.block k hk (fun hS => hn (hs k hk hS))⟩
theorem Keeps.then (h : Keeps S w w') (k : Keeps T w' w'') (hs : ∀ i, i < w.heap.size → T i → S i) : Keeps S w w'' :=
  ⟨k.os.trans h.os, k.tape.trans h.tape, k.output.trans h.output, Nat.le_trans h.size k.size, fun i hi hn => (k.block i (Nat.lt_of_lt_of_le hi h.size) (fun hT => hn (hs i hi hT))).trans (h.block i hi hn)⟩
theorem Keeps.of_grown {row : Option Nat} (h : w.grownBy w' row) : Keeps (fun k => some k = row) w w' := ⟨h.os, h.tape, h.output, h.size, fun k hk hn => h.block k hk hn⟩
theorem Keeps.grown {row : Option Nat} (h : Keeps S w w') (g : w'.grownBy w'' row) (hs : ∀ k, k < w.heap.size → row = some k → S k) : Keeps S w w'' :=
  h.then (Keeps.of_grown g) (fun i hi he => hs i hi he.symm)
theorem Keeps.drewN (h : Keeps S w w') (n : Nat) : Keeps S w (w'.drewN n) := ⟨h.os, h.tape, h.output, h.size, h.block⟩
theorem Keeps.drew (h : Keeps S w w') : Keeps S w w'.drew := ⟨h.os, h.tape, h.output, h.size, h.block⟩
theorem Keeps.alloc (h : Keeps S w w') (o : Obj) : Keeps S w (w'.alloc o) :=
  ⟨h.os, h.tape, h.output, by simp; exact Nat.le_succ_of_le h.size, fun k hk hn => (Below.heap_alloc w' o k (Nat.lt_of_lt_of_le hk h.size)).trans (h.block k hk hn)⟩
theorem Keeps.setCell (h : Keeps S w w') {p : Addr} (hp : p.block < w.heap.size → S p.block) (u : Value) : Keeps S w (w'.setCell p u) :=
  ⟨h.os, h.tape, h.output, by simpa [World.setCell] using h.size, fun k hk hn => (Below.heap_setCell w' p u k (by rintro rfl; exact hn (hp hk))).trans (h.block k hk hn)⟩
theorem Keeps.below (h : Keeps S w w') {B : Nat} (hB : B ≤ w.heap.size) (hs : ∀ k, k < B → ¬ S k) : Below B w w' :=
  ⟨h.os, h.tape, h.output, h.size, fun k hk => h.block k (Nat.lt_of_lt_of_le hk hB) (hs k hk)⟩
theorem Keeps.of_below {B : Nat} (h : Below B w w') : Keeps (fun k => B ≤ k) w w' := ⟨h.os, h.tape, h.output, h.size, fun k _ hn => h.block k (by omega)⟩
theorem Keeps.of_below0 (h : Below w.heap.size w w') : Keeps (fun _ => False) w w' := ⟨h.os, h.tape, h.output, h.size, fun k hk _ => h.block k hk⟩
theorem Keeps.cell (h : Keeps S w w') {p : Addr} {v : Value} (hc : w.cell? p = some v) (hn : ¬ S p.block) : w'.cell? p = some v :=
  (World.cell?_of_block (h.block p.block (World.block_lt_of_cell? w p hc) hn)).trans hc

variable {b : Nat} {t : TypeId} {cs : List Value}
theorem Blk.lt (h : Blk w b t cs) : b < w.heap.size := by
  rcases Nat.lt_or_ge b w.heap.size with hlt | hge
  · exact hlt
  · unfold Blk at h; rw [Array.getElem?_eq_none hge] at h; cases h
theorem Blk.cell (h : Blk w b t cs) (i : Nat) : w.cell? ⟨b, i, none⟩ = cs[i]? := by
  rw [cell_of_row w b i _ t (0, 0) h]; simp
theorem Blk.frozen (h : Blk w b t cs) (i : Nat) : w.frozen? ⟨b, i, none⟩ = false := by
  unfold Blk at h
  simp [World.frozen?, h]
theorem Blk.new (w : World) (t : TypeId) (cs : List Value) : Blk (w.alloc (.cells cs.toArray t)) w.heap.size t cs := heap_alloc_new w _
theorem Blk.drew (h : Blk w b t cs) : Blk w.drew b t cs := h
theorem Blk.drewN (h : Blk w b t cs) (n : Nat) : Blk (w.drewN n) b t cs := h
theorem Blk.alloc (h : Blk w b t cs) (o : Obj) : Blk (w.alloc o) b t cs := (Below.heap_alloc w o b h.lt).trans h
theorem Blk.set_ (h : Blk w b t cs) (i : Nat) (u : Value) : Blk (w.setCell ⟨b, i, none⟩ u) b t (cs.set i u) := by
  unfold Blk at h ⊢
  simp [World.setCell, Array.getElem?_modify, h]
theorem Blk.far (h : Blk w b t cs) {p : Addr} (hp : b ≠ p.block) (u : Value) : Blk (w.setCell p u) b t cs := (Below.heap_setCell w p u b hp).trans h
theorem Blk.keeps (h : Blk w b t cs) (k : Keeps S w w') (hn : ¬ S b) : Blk w' b t cs := (k.block b h.lt hn).trans h
theorem Blk.kd (h : Blk w b t cs) (k : Keeps (fun _ => False) w' w'') (he : w'.heap = w.heap := by rfl) : Blk w'' b t cs := by
  have h' : Blk w' b t cs := by unfold Blk at h ⊢; rw [he]; exact h
  exact h'.keeps k (fun h => h)
theorem Keeps.td {w3 : World} (h : Keeps S w w') (k : Keeps T w'' w3) (hs : ∀ i, i < w.heap.size → T i → S i := by simp) (he : w''.heap = w'.heap := by rfl) (h1 : w''.os = w'.os := by rfl) (h2 : w''.tape = w'.tape := by rfl) (h3 : w''.output = w'.output := by rfl) : Keeps S w w3 := by
  have h' : Keeps S w w'' := ⟨h1.trans h.os, h2.trans h.tape, h3.trans h.output, by rw [he]; exact h.size, fun k hk hn => by rw [he]; exact h.block k hk hn⟩
  exact h'.then k hs
theorem Blk.below {B : Nat} (h : Blk w b t cs) (k : Below B w w') (hn : b < B) : Blk w' b t cs := (k.block b hn).trans h
theorem Blk.grown {row : Option Nat} (h : Blk w b t cs) (hb : w.grownBy w' row) (hg : some b ≠ row) : Blk w' b t cs := (hb.block b h.lt hg).trans h
theorem Blk.ne_ {b' : Nat} {t' : TypeId} {cs' : List Value} (h : Blk w b t cs) (h' : Blk w b' t' cs') (hne : t ≠ t') : b ≠ b' := by
  rintro rfl
  unfold Blk at h h'
  rw [h] at h'
  injection h' with h'
  injection h' with _ ht
  exact hne ht
theorem own_ne {base : Nat} {e : TypeId} {size n : Nat} {v : Value} {xs : List Value} (h : w.ownsRow base e size v n xs) (hg : Blk w b t cs) (hne : e ≠ t) : some b ≠ v.ownBlock := by
  rcases h.2 with ⟨rfl, _⟩ | ⟨g', cap, cur, rfl, _, hh, _⟩
  · simp [Value.ownBlock]
  · intro he
    have : b = g' := by simpa [Value.ownBlock] using he
    subst this
    exact Blk.ne_ (t := e) (cs := cur.toList) (by unfold Blk; simpa using hh) hg hne rfl
theorem owns_keeps {base : Nat} {e : TypeId} {size n : Nat} {v : Value} {xs : List Value} (h : w.ownsRow base e size v n xs) (k : Keeps S w w') (hn : ∀ b, v.ownBlock = some b → ¬ S b) : w'.ownsRow base e size v n xs := by
  refine ⟨h.1, ?_⟩
  rcases h.2 with hn' | ⟨g, cap, cur, rfl, hb, hgg, rest⟩
  · exact .inl hn'
  · refine .inr ⟨g, cap, cur, rfl, hb, ?_, rest⟩
    rw [k.block g (Array.getElem?_eq_some_iff.1 hgg).1 (hn g rfl)]
    exact hgg
theorem grown_setCell (w : World) (p : Addr) (u : Value) : w.grownBy (w.setCell p u) (some p.block) :=
  ⟨rfl, rfl, rfl, by simp [World.setCell], fun k _ hk => Below.heap_setCell _ _ _ _ (fun e => hk (by rw [e]))⟩
theorem owns_setCell {base : Nat} {e : TypeId} {size n : Nat} {v : Value} {xs : List Value} (h : w.ownsRow base e size v n xs) {p : Addr} (hp : v.ownBlock ≠ some p.block) (u : Value) : (w.setCell p u).ownsRow base e size v n xs :=
  h.kept (grown_setCell w p u) (.inr hp)
theorem owns_base {base base' : Nat} {e : TypeId} {size n : Nat} {v : Value} {xs : List Value} (h : w.ownsRow base e size v n xs) (hb : base' ≤ base) : w.ownsRow base' e size v n xs := by
  refine ⟨h.1, ?_⟩
  rcases h.2 with hn' | ⟨g, cap, cur, rfl, hb', rest⟩
  · exact .inl hn'
  · exact .inr ⟨g, cap, cur, rfl, Nat.le_trans hb hb', rest⟩
theorem Blk.range (h : Blk w b t cs) (o : Nat) (vs : List Value) (hv : (cs.drop o).take vs.length = vs) : w.rangeAt b o vs := fun j v hj => by
  rw [h.cell]
  have hl : j < vs.length := (List.getElem?_eq_some_iff.1 hj).1
  rw [← hv, List.getElem?_take, if_pos hl, List.getElem?_drop] at hj
  exact hj
end

section
variable {P : Program} {ops : Array Oper} {rest : List Oper} {o : Oper} {a : Act} {w : World} {Q : Exit → Act → World → Prop}
/-- a whole struct is loaded out of the middle of a block. -/
theorem wpList_load_blk (hgd : o.guard = none) (ty : TypeId) (x : Operand) (ho : o.op = .load ty x)
    (b off : Nat) (t : TypeId) (cs vs : List Value) (d : TypeDesc) (hx : a.eval x = .pointer (some ⟨b, off, none⟩)) (hB : Blk w b t cs) (hv : (cs.drop off).take vs.length = vs)
    (hu : P.underlying ty = some d) (hd : d.isRow = true) (hi : (P.info? ty).map (·.size) = some vs.length)
    (h : wpList P ops Q rest (a.put o.dst (.agg vs.toArray)) w) : wpList P ops Q (o :: rest) a w :=
  wpList_load_mid hgd ty x ho b off hx vs d (hB.range off vs hv) hu hd hi h

theorem run_storeVar_blk (w : World) (g off : Nat) (t ty : TypeId) (cs : List Value) (vs : Array Value) (hg : Blk w g t cs) (hi : (P.info? ty).map (·.size) = some vs.size)
    (hf : off + vs.size ≤ cs.length) (h1 : vs.all (·.oneCell') = true) :
    (storeVar ty ⟨g, off, none⟩ (.agg vs)).run P w = .ok () (w.setRow g (cs.take off ++ vs.toList ++ cs.drop (off + vs.size)).toArray) := by
  have := run_storeCells_at P g off t vs.toList 0 cs.toArray w hg (by simpa using hf) (fun v hv => (Array.all_eq_true_iff_forall_mem.1 h1) v (by simpa using hv))
  cases hq : P.info? ty with
  | none => simp [hq] at hi
  | some i =>
    have hs : vs.size = i.size := by simp [hq] at hi; omega
    simp only [Nat.add_zero, Array.length_toList] at this
    simp [storeVar, sizeOf, typeInfo, hq, Value.cells, hs, this]

/-- a whole struct is stored into the middle of a block. -/
theorem wp_store_blk {K : Act → World → Prop} (ty : TypeId) (x y : Operand) (ho : o.op = .store ty x y)
    (b off : Nat) (t : TypeId) (cs : List Value) (vs : Array Value) (hx : a.eval x = .pointer (some ⟨b, off, none⟩)) (hy : a.eval y = .agg vs) (hB : Blk w b t cs)
    (hf : off + vs.size ≤ cs.length) (hi : (P.info? ty).map (·.size) = some vs.size) (h1 : vs.all (·.oneCell') = true)
    (h : ∀ w' : World, Blk w' b t (cs.take off ++ vs.toList ++ cs.drop (off + vs.size)) → w.grownBy w' (some b) → w'.heap.size = w.heap.size → K (a.put o.dst undef) w') : o.wp P a w K Q := by
  unfold Oper.wp execOp
  simp only [ho, hx, hy, Instr.storeAt, Instr.sureAddr, Sem.run_bind, Sem.run_pure, Result.andThen_ok, run_storeVar_blk w b off t ty cs vs hB hi hf h1]
  exact h _ (setRow_heap w b _ _ t _ hB) ⟨rfl, rfl, rfl, by simp, fun k _ hk => setRow_other w b k _ (fun e => hk (by rw [e]))⟩ (by simp)
theorem wpList_store_blk (hgd : o.guard = none) (ty : TypeId) (x y : Operand) (ho : o.op = .store ty x y)
    (b off : Nat) (t : TypeId) (cs : List Value) (vs : Array Value) (hx : a.eval x = .pointer (some ⟨b, off, none⟩)) (hy : a.eval y = .agg vs) (hB : Blk w b t cs)
    (hf : off + vs.size ≤ cs.length) (hi : (P.info? ty).map (·.size) = some vs.size) (h1 : vs.all (·.oneCell') = true)
    (h : ∀ w' : World, Blk w' b t (cs.take off ++ vs.toList ++ cs.drop (off + vs.size)) → w.grownBy w' (some b) → w'.heap.size = w.heap.size → wpList P ops Q rest (a.put o.dst undef) w') : wpList P ops Q (o :: rest) a w :=
  wpList_plain hgd fun _ hK => wp_store_blk ty x y ho b off t cs vs hx hy hB hf hi h1 fun w' h2 h3 h4 => hK _ _ (h w' h2 h3 h4)
end

section
variable {P : Program} {ops : Array Oper} {rest : List Oper} {o : Oper} {a : Act} {w : World} {Q : Exit → Act → World → Prop}
theorem fill_one (s : Nat) (hs : 0 < s) (cells vs : Array Value) (v : Value) (hv : v.cells = vs) (h1 : vs.size = s) (h2 : cells.size = s) : Instr.fill (fun i => some (i * s, s)) cells [(0, v)] = some vs := by
  obtain ⟨r, hr, hsz, hk⟩ := Great.fill_dense (s := s) hs [v] 0 cells (by simp [hv, h1]) (by simp [h2])
  rw [show ([v].zipIdx 0).map (fun x => (x.2, x.1)) = [(0, v)] by simp] at hr
  rw [hr]
  congr 1
  apply Array.ext_getElem?
  intro k
  rw [hk k]
  by_cases hlt : k < s
  · rw [if_pos (by simp; omega), Nat.div_eq_of_lt hlt, Nat.mod_eq_of_lt hlt]; simp [hv]
  · rw [if_neg (by simp; omega), Array.getElem?_eq_none (by omega), Array.getElem?_eq_none (by omega)]
/-- a slice literal of one element. -/
theorem wp_slice1 {K : Act → World → Prop} (t e : TypeId) (x : Operand) (ho : o.op = .buildSlice t 1 #[(0, x)]) (v : Value) (hx : a.eval x = v) (vs : List Value) (hv : v.cells = vs.toArray) (s : Nat)
    (hu : P.underlying t = some (.slice e)) (hsz : (P.info? e).map (·.size) = some s) (hz : ((P.info? e).bind (·.zero)).isSome = true) (hl : vs.length = s) (hs : 0 < s) (hs2 : s ≤ 1000)
    (h : K (a.put o.dst (.slice (some ⟨w.heap.size, 0, none⟩) 1 1)) (w.alloc (.cells vs.toArray e))) : o.wp P a w K Q := by
  cases hie : P.info? e with
  | none => simp [hie] at hsz
  | some ie =>
    simp only [hie, Option.map_some, Option.some.injEq, Option.bind_some] at hsz hz
    obtain ⟨z, hzz⟩ := Option.isSome_iff_exists.1 hz
    refine wp_buildSlice t e 1 #[(0, x)] ho vs.toArray ie z hu hie hzz (by omega) (by omega) ?_ h
    have := fill_one ie.size (by omega) ((Array.range (1 * ie.size)).map (z.cells[· % z.cells.size]!)) vs.toArray v hv (by simp; omega) (by simp)
    simpa [hx] using this
theorem wpList_slice1 (hgd : o.guard = none) (t e : TypeId) (x : Operand) (ho : o.op = .buildSlice t 1 #[(0, x)]) (v : Value) (hx : a.eval x = v) (vs : List Value) (hv : v.cells = vs.toArray) (s : Nat)
    (hu : P.underlying t = some (.slice e)) (hsz : (P.info? e).map (·.size) = some s) (hz : ((P.info? e).bind (·.zero)).isSome = true) (hl : vs.length = s) (hs : 0 < s) (hs2 : s ≤ 1000)
    (h : wpList P ops Q rest (a.put o.dst (.slice (some ⟨w.heap.size, 0, none⟩) 1 1)) (w.alloc (.cells vs.toArray e))) : wpList P ops Q (o :: rest) a w :=
  wpList_plain hgd fun _ hK => wp_slice1 t e x ho v hx vs hv s hu hsz hz hl hs hs2 (hK _ _ h)
end

section
variable {P : Program} {ops : Array Oper} {rest : List Oper} {o : Oper} {a : Act} {w : World} {Q : Exit → Act → World → Prop}
/-- a struct is built: what it is, is a closed fact. -/
theorem wpList_built (hgd : o.guard = none) (t : TypeId) (parts : Array (Nat × Operand)) (ho : o.op = .build t parts)
    (cells : Array Value) (hb : P.built t (parts.map fun (i, x) => (i, a.eval x)).toList = some cells) (h : wpList P ops Q rest (a.put o.dst (.agg cells)) w) : wpList P ops Q (o :: rest) a w :=
  wpList_build hgd t parts ho (by rw [hb]; rfl) (by rw [hb]; exact h)
end
section
variable {P : Program}
theorem run_copy_blk (w : World) (dT sT ty elem : TypeId) (g o dLen dCap : Nat) (a : Addr) (sLen sCap : Nat) (cur : List Value) (t : TypeId) (cs : List Value) (k n : Nat)
    (hu : P.underlying dT = some (.slice elem)) (hs : (P.info? elem).map (·.size) = some k)
    (hg : Blk w g t cur) (hm : Nat.min sLen dLen = n) (hn : cs.length = n * k)
    (hsrc : ∀ j v, cs[j]? = some v → w.cell? (a.add j) = some v) (hfit : o + cs.length ≤ cur.length) (h1 : ∀ v ∈ cs, v.oneCell' = true) :
    (Builtin.copy_ #[dT, sT] ty #[.slice (some ⟨g, o, none⟩) dLen dCap, .slice (some a) sLen sCap]).run P w =
      .ok (goInt n) (w.setRow g (cur.take o ++ cs ++ cur.drop (o + cs.length)).toArray) := by
  have hl := run_loadCells_list (P := P) w a cs hsrc
  have hst := run_storeCells_at P g o t cs 0 cur.toArray w hg (by simpa using hfit) h1
  cases hq : P.info? elem with
  | none => simp [hq] at hs
  | some i =>
    have hi : i.size = k := by simpa [hq] using hs
    simp only [Nat.add_zero] at hst
    rw [hn] at hl
    simp [Builtin.copy_, run_underlying hu, Builtin.lenOf, Builtin.firstCells, sizeOf, typeInfo, hq, hi, hm, hl, hst]
theorem step_copy_blk {ops : Array Oper} {o : Oper} {a : Act} {w : World} {K : Act → World → Prop} {Q : Exit → Act → World → Prop} {E : Prop} (hgd : o.guard = none) (d s : Operand) (dT sT : TypeId)
    (ho : o.op = .call { callee := .builtin .copy, args := #[d, s], argTypes := #[dT, sT] }) (elem : TypeId) (k n : Nat) (hu : P.underlying dT = some (.slice elem)) (hsz : (P.info? elem).map (·.size) = some k)
    (g off dLen dCap : Nat) (ad : Addr) (sLen sCap : Nat) (hd : a.eval d = .slice (some ⟨g, off, none⟩) dLen dCap) (hs : a.eval s = .slice (some ad) sLen sCap)
    (cur : List Value) (t : TypeId) (cs : List Value) (hg : Blk w g t cur) (hm : Nat.min sLen dLen = n) (hn : cs.length = n * k)
    (hsrc : ∀ j v, cs[j]? = some v → w.cell? (ad.add j) = some v) (hfit : off + cs.length ≤ cur.length) (h1 : ∀ v ∈ cs, v.oneCell' = true)
    (h : ∀ w', Blk w' g t (cur.take off ++ cs ++ cur.drop (off + cs.length)) → w.grownBy w' (some g) → K (a.put o.dst (goInt n)) w') :
    if Region.wanted o (yielded ops a.tmps) = true then Oper.wp P o a w K Q else E := by
  have hw : Region.wanted o (yielded ops a.tmps) = true := by simp [Region.wanted, hgd]
  rw [if_pos hw]
  have hrun := run_copy_blk (P := P) w dT sT o.type elem g off dLen dCap ad sLen sCap cur t cs k n hu hsz hg hm hn hsrc hfit h1
  unfold Oper.wp execOp
  simp only [ho, resolve, invoke, builtin, Sem.run_bind, Sem.run_pure, Result.andThen_ok, List.map_toArray, List.map_cons, List.map_nil, hd, hs, hrun]
  exact h _ (setRow_heap w g _ _ t _ hg) ⟨rfl, rfl, rfl, by simp, fun k _ hk => setRow_other w g k _ (fun e => hk (by rw [e]))⟩
end
theorem own_slice {w : World} {base : Nat} {e : TypeId} {size n : Nat} {v : Value} {xs : List Value} (h : w.ownsRow base e size v n xs) : ∃ a c, v = .slice a n c := by
  rcases h.2 with ⟨rfl, rfl⟩ | ⟨g, cap, cur, rfl, _⟩
  · exact ⟨none, 0, rfl⟩
  · exact ⟨_, _, rfl⟩
theorem wpList_append_src {P : Program} {w : World} {ops : Array Oper} {rest : List Oper} {o : Oper} {a : Act} {Q : Exit → Act → World → Prop} (hgd : o.guard = none) (s x : Operand) (t : TypeId)
    (ho : o.op = .call { callee := .builtin .append, args := #[s, x], argTypes := #[t, t] })
    (base : Nat) (e : TypeId) (i : TypeInfo) (z : Value) (size bytes : Nat) (ht : P.underlying t = some (.slice e)) (hi : P.info? e = some i) (hz : i.zero = some z)
    (hsize : i.size = size) (hby : i.bytes = bytes) (hzs : z.cells.size = size) (hsz : 0 < size)
    (v : Value) (n : Nat) (xs : List Value) (hs : a.eval s = v) (hown : w.ownsRow base e size v n xs)
    (v2 : Value) (m : Nat) (news : List Value) (base2 : Nat) (hx : a.eval x = v2) (hsrc : w.ownsRow base2 e size v2 m news) (h1 : ∀ u ∈ news, u.oneCell' = true)
    (h63 : n + m ≤ maxLen) (hbytes : (n + m) * bytes ≤ 140737488355328) (hbase : base ≤ w.heap.size)
    (h0 : ∀ (a' : Option Addr) (c' : Nat) (w' : World), w'.ownsRow base e size (.slice a' (n + m) c') (n + m) (xs ++ news) → w.grownBy w' v.ownBlock → wpList P ops Q rest (a.put o.dst (.slice a' (n + m) c')) w') : wpList P ops Q (o :: rest) a w := by
  have h : ∀ (v' : Value) (w' : World), w'.ownsRow base e size v' (n + m) (xs ++ news) → w.grownBy w' v.ownBlock → wpList P ops Q rest (a.put o.dst v') w' := by
    intro v' w' h1 h2
    obtain ⟨a', c', rfl⟩ := own_slice h1
    exact h0 a' c' w' h1 h2
  rcases hsrc.2 with ⟨rfl, rfl⟩ | ⟨g, cap, cur, rfl, _, _, _⟩
  · have hn : news = [] := List.eq_nil_of_length_eq_zero (by simpa using hsrc.1)
    subst hn
    refine wpList_plain hgd fun K hK => ?_
    have hr := run_append_owned_none (P := P) w base t o.type e i size ht hi v n xs hown
    unfold Oper.wp execOp
    simp only [ho, resolve, invoke, builtin, Sem.run_bind, Sem.run_pure, Result.andThen_ok, List.map_toArray, List.map_cons, List.map_nil, hs, hx, hr]
    exact hK _ _ (h v w (by simpa using hown) ⟨rfl, rfl, rfl, Nat.le_refl _, fun _ _ _ => rfl⟩)
  · exact wpList_append_own w hgd s x t ho base e i z size bytes ht hi hz hsize hby hzs hsz v n xs hs hown ⟨g, 0, none⟩ m cap news hx hsrc.1 (hsrc.cells rfl) h1 h63 hbytes hbase fun v' w' a b _ => h v' w' a b
theorem results_row_tmp {P : Program} {fn : Func} {p u : Tmp} {ty : TypeId} (h : fn.results = #[.cell p ty, .tmp u]) (tmps : Array Value) (w : World) (g : Nat) (t : TypeId) (cs : Array Value) (fr : Nat × Nat) (d : TypeDesc)
    (hp : tmps.getD p undef = .pointer (some ⟨g, 0, none⟩)) (hg : w.heap[g]? = some (.cells cs t fr))
    (hu : P.underlying ty = some d) (hd : (match d with | .struct _ | .array _ _ => true | _ => false) = true) (hi : (P.info? ty).map (·.size) = some cs.size) :
    (results fn tmps).run P w = .ok (.tuple #[.agg cs, tmps.getD u undef]) w := by
  rw [results_cell_tmp h, hp]
  simp [asAddr, run_loadVar_row w g t ty cs fr d hg hu hd hi]
theorem run_make_rowN {P : Program} (t e : TypeId) (i : TypeInfo) (z : Value) (size bytes : Nat) (ht : P.underlying t = some (.slice e)) (hi : P.info? e = some i) (hz : i.zero = some z) (hsz : i.size = size) (hby : i.bytes = bytes)
    (kl kc : IntKind) (n c : Nat) (hnc : n ≤ c) (hbytes : bytes * c ≤ 281474976710656) (h63 : c ≤ 9223372036854775807) (w : World) :
    (Instr.makeSlice t (.int kl (n : Int)) (.int kc (c : Int))).run P w = .ok (.slice (some ⟨w.heap.size, 0, none⟩) n c) (w.alloc (.cells (madeCells z.cells (c * size)) e)) := by
  subst hsz
  have hb : (i.bytes : Int) * (c : Int) ≤ 281474976710656 := by
    rw [hby]
    have h : ((bytes * c : Nat) : Int) ≤ 281474976710656 := by omega
    rwa [Int.natCast_mul] at h
  have hr := run_make (P := P) w t e i z ht hi hz kl kc n c (by omega) (by omega) hb (by omega)
  simp only [Int.toNat_natCast] at hr
  exact hr
/-- a way out of a piece of code: normally, by an exit, by a return; never otherwise. -/
def Outs (N : Act → World → Prop) (X : Nat → Act → World → Prop) (R : Act → World → Prop) : Exit → Act → World → Prop
  | .normal, a, w => N a w
  | .exit n, a, w => X n a w
  | .ret, a, w => R a w
  | _, _, _ => False
section
variable (N : Act → World → Prop) (X : Nat → Act → World → Prop) (R : Act → World → Prop) (a : Act) (w : World)
theorem Outs_normal : Outs N X R .normal a w = N a w := rfl
theorem Outs_exit (n : Nat) : Outs N X R (.exit n) a w = X n a w := rfl
theorem Outs_ret : Outs N X R .ret a w = R a w := rfl
end
attribute [go_sem] Outs_normal Outs_exit Outs_ret
theorem Outs.mono {Q : Exit → Act → World → Prop} {N : Act → World → Prop} {X : Nat → Act → World → Prop} {R : Act → World → Prop}
    (hN : ∀ a w, N a w → Q .normal a w) (hX : ∀ n a w, X n a w → Q (.exit n) a w) (hR : ∀ a w, R a w → Q .ret a w) : ∀ e a w, Outs N X R e a w → Q e a w := by
  intro e a w h
  cases e with
  | normal => exact hN a w h
  | exit n => exact hX n a w h
  | ret => exact hR a w h
  | _ => exact h.elim
/-- the bodies of a code's loops, in the text's order. -/
def loops : Code → List Code
  | .loop c => c :: loops c
  | .seq a b => loops a ++ loops b
  | .block _ c => loops c
  | .scope c => loops c
  | .cond _ a b => loops a ++ loops b
  | .rangeFunc _ _ a b => loops a ++ loops b
  | _ => []
theorem news_new (w : World) (t : TypeId) (cs : List Value) : ∀ j u, cs[j]? = some u → (w.alloc (.cells cs.toArray t)).cell? ((⟨w.heap.size, 0, none⟩ : Addr).add j) = some u := by
  intro j u h
  rw [Addr.add_mid, Nat.zero_add, (Blk.new w t cs).cell]
  exact h
section
variable {α : Type} {f : α → List Value} {k : Nat}
theorem flat_length (hk : ∀ x, (f x).length = k) : ∀ l : List α, (l.flatMap f).length = l.length * k
  | [] => by simp
  | x :: l => by simp [flat_length hk l, hk, Nat.add_mul, Nat.add_comm]
theorem flat_drop (hk : ∀ x, (f x).length = k) : ∀ (l : List α) (i : Nat), (l.flatMap f).drop (i * k) = (l.drop i).flatMap f
  | [], i => by simp
  | x :: l, 0 => by simp
  | x :: l, i + 1 => by
    have h : ((x :: l).flatMap f).drop ((i + 1) * k) = (l.flatMap f).drop (i * k) := by
      rw [List.flatMap_cons, show (i + 1) * k = (f x).length + i * k by rw [hk]; simp [Nat.add_mul, Nat.add_comm], List.drop_append, List.drop_of_length_le (by omega), List.nil_append, Nat.add_sub_cancel_left]
    rw [h, flat_drop hk l i]; simp
theorem flat_take (hk : ∀ x, (f x).length = k) : ∀ (l : List α) (i : Nat), (l.flatMap f).take (i * k) = (l.take i).flatMap f
  | [], i => by simp
  | x :: l, 0 => by simp
  | x :: l, i + 1 => by
    rw [List.flatMap_cons, show (i + 1) * k = (f x).length + i * k by rw [hk]; simp [Nat.add_mul, Nat.add_comm], List.take_append]
    simp only [List.take_succ_cons, List.flatMap_cons]
    rw [List.take_of_length_le (by omega), show (f x).length + i * k - (f x).length = i * k by omega, flat_take hk l i]
theorem flat_get (hk : ∀ x, (f x).length = k) (l : List α) (i : Nat) (x : α) (hx : l[i]? = some x) : ((l.flatMap f).drop (i * k)).take k = f x := by
  rw [flat_drop hk]
  have hi : i < l.length := (List.getElem?_eq_some_iff.1 hx).1
  rw [List.drop_eq_getElem_cons hi]
  have : l[i] = x := (List.getElem?_eq_some_iff.1 hx).2
  rw [this, List.flatMap_cons, ← hk x, List.take_left]
theorem flat_cell (hk : ∀ x, (f x).length = k) (l : List α) (i j : Nat) (hj : j < k) (x : α) (hx : l[i]? = some x) : (l.flatMap f)[i * k + j]? = (f x)[j]? := by
  have h := flat_get hk l i x hx
  rw [← h, List.getElem?_take, if_pos hj, List.getElem?_drop]
theorem flat_set (hk : ∀ x, (f x).length = k) (l : List α) (i : Nat) (x : α) (hi : i < l.length) :
    (l.flatMap f).take (i * k) ++ f x ++ (l.flatMap f).drop (i * k + k) = (l.set i x).flatMap f := by
  rw [flat_take hk, show i * k + k = (i + 1) * k by rw [Nat.add_mul, Nat.one_mul], flat_drop hk, List.set_eq_take_append_cons_drop, if_pos hi]
  simp
end

/-- As Q; by a goto to a label l: J l. -/
def Jumps (J : Nat → Act → World → Prop) (Q : Exit → Act → World → Prop) : Exit → Act → World → Prop
  | .goto l, a, w => J l a w
  | e, a, w => Q e a w
section
variable {P : Program} {a : Act} {w : World} {Q : Exit → Act → World → Prop}
theorem Jumps_ret (J : Nat → Act → World → Prop) : Jumps J Q .ret a w = Q .ret a w := rfl
theorem Jumps_normal (J : Nat → Act → World → Prop) : Jumps J Q .normal a w = Q .normal a w := rfl
theorem Jumps_exit (J : Nat → Act → World → Prop) (id : Nat) : Jumps J Q (.exit id) a w = Q (.exit id) a w := rfl
theorem Jumps_goto (J : Nat → Act → World → Prop) (l : Nat) : Jumps J Q (.goto l) a w = J l a w := rfl
attribute [go_sem] Jumps_ret Jumps_normal Jumps_exit Jumps_goto
theorem wp_scope_labels {c : Code} (J : Nat → Nat → Act → World → Prop)
    (first : c.wp P (Jumps (fun l a w => ∃ m, J l m a w) Q) a w)
    (pass : ∀ l m a w, J l m a w → ∃ rest, findLabel c l = some rest ∧ rest.wp P (Jumps (fun l' a' w' => ∃ m', m' < m ∧ J l' m' a' w') Q) a w) : (Code.scope c).wp P Q a w := by
  intro b k cs
  have key : ∀ n l a w, J l n a w → ∃ rest, findLabel c l = some rest ∧ ∃ e a' w', Q e a' w' ∧ Arrives P (lone (b.at a (.code rest :: .inScope c :: k)) cs w) b k cs e a' w' := by
    intro n
    induction n using Nat.strongRecOn with
    | _ n ih =>
      intro l a w hJ
      obtain ⟨rest, hf, hpass⟩ := pass l n a w hJ
      obtain ⟨e, a₁, w₁, hq, harr⟩ := hpass b (.inScope c :: k) cs
      refine ⟨rest, hf, ?_⟩
      cases e with
      | normal => exact ⟨.normal, a₁, w₁, hq, Steps.trans harr (.one step_inScope)⟩
      | exit id => exact ⟨.exit id, a₁, w₁, hq, fun k' hk => harr k' (by simp [exitTo, hk])⟩
      | goto l' =>
        obtain ⟨m', hlt, hJ'⟩ := hq
        obtain ⟨rest', hf', e₂, a₂, w₂, hq₂, harr₂⟩ := ih m' hlt l' a₁ w₁ hJ'
        have hg : gotoIn l' (.inScope c :: k) = some (.code rest' :: .inScope c :: k) := by simp [gotoIn, hf']
        exact ⟨e₂, a₂, w₂, hq₂, .of_steps (harr _ hg) harr₂⟩
      | ret => exact ⟨_, a₁, w₁, hq, harr⟩
      | panic ch => exact ⟨_, a₁, w₁, hq, harr⟩
      | outgrown => exact ⟨_, a₁, w₁, hq, harr⟩
  obtain ⟨e, a₁, w₁, hq, harr⟩ := first b (.inScope c :: k) cs
  cases e with
  | normal => exact ⟨.normal, a₁, w₁, hq, .head step_scope (Steps.trans harr (.one step_inScope))⟩
  | exit id => exact ⟨.exit id, a₁, w₁, hq, fun k' hk => .head step_scope (harr k' (by simp [exitTo, hk]))⟩
  | goto l' =>
    obtain ⟨m', hJ'⟩ := hq
    obtain ⟨rest', hf', e₂, a₂, w₂, hq₂, harr₂⟩ := key m' l' a₁ w₁ hJ'
    have hg : gotoIn l' (.inScope c :: k) = some (.code rest' :: .inScope c :: k) := by simp [gotoIn, hf']
    exact ⟨e₂, a₂, w₂, hq₂, .of_steps (.head step_scope (harr _ hg)) harr₂⟩
  | ret => exact ⟨_, a₁, w₁, hq, .of_steps (.one step_scope) harr⟩
  | panic ch => exact ⟨_, a₁, w₁, hq, .of_steps (.one step_scope) harr⟩
  | outgrown => exact ⟨_, a₁, w₁, hq, .of_steps (.one step_scope) harr⟩

/-- a frame of n slots, of which some are known. -/
def Fr (a : Act) (n : Nat) (l : List (Nat × Value)) : Prop := a.tmps.size = n ∧ a.defers = [] ∧ ∀ p ∈ l, a.tmps.getD p.1 undef = p.2
theorem cons_of {l : List Value} {n : Nat} (h : l.length = n + 1) : ∃ x r, l = x :: r ∧ r.length = n := by
  cases l with
  | nil => simp at h
  | cons x r => exact ⟨x, r, rfl, by simpa using h⟩
theorem Fr.at_ {a : Act} {n : Nat} {l : List (Nat × Value)} (h : Fr a n l) (i : Nat) (v : Value) (hm : (i, v) ∈ l) : a.tmps.getD i undef = v := h.2.2 (i, v) hm
end
end Mem
end Go.Proofs.Ytdbpfbokfmpgcaa
namespace Go.Proofs.Ytdbpfbokfmpgcaa
open Go.RowKit
namespace Mem
/-- from w to w' only S was written, of what there was; the new footprint holds new blocks besides. -/
def Foot (S S' : Nat → Prop) (w w' : World) : Prop := Keeps S w w' ∧ ∀ k, S' k → S k ∨ w.heap.size ≤ k
def Inb (S : Nat → Prop) (w : World) : Prop := ∀ k, S k → k < w.heap.size
section
variable {S S' S'' T : Nat → Prop} {w w' w'' : World}
theorem Foot.refl (S : Nat → Prop) (w : World) : Foot S S w w := ⟨Keeps.refl _ _, fun _ h => .inl h⟩
theorem Foot.trans (h : Foot S S' w w') (k : Foot S' S'' w' w'') : Foot S S'' w w'' :=
  ⟨h.1.then k.1 (fun i hi hs => (h.2 i hs).resolve_right (by omega)), fun i hi => by
    rcases k.2 i hi with h1 | h1
    · exact h.2 i h1
    · exact .inr (Nat.le_trans h.1.size h1)⟩
theorem Foot.same (h : Keeps S w w') : Foot S S w w' := ⟨h, fun _ h => .inl h⟩
theorem Inb.mono (h : Inb S w) (hs : w.heap.size ≤ w'.heap.size) : Inb S w' := fun k hk => Nat.lt_of_lt_of_le (h k hk) hs
end
/-- J abides what is written outside of its footprint, from block b on. -/
def Stab {β : Type} (b : Nat) (J : β → (Nat → Prop) → World → Prop) : Prop :=
  ∀ s S (T : Nat → Prop) (W W' : World), J s S W → Inb S W → Keeps T W W' → (∀ k, S k → ¬ T k) → (∀ k, T k → b ≤ k) → J s S W'
theorem Stab.mono {β : Type} {b b' : Nat} {J : β → (Nat → Prop) → World → Prop} (h : Stab b J) (hb : b ≤ b') : Stab b' J :=
  fun s S T W W' hj hi hk hd ht => h s S T W W' hj hi hk hd (fun k hk' => Nat.le_trans hb (ht k hk'))
/-- how a round ends -/
def RoundEnd {α : Type} (J Jx : List α → (Nat → Prop) → World → Prop) (xs : List α) (S : Nat → Prop) (W : World) (e : Ending) (W' : World) : Prop :=
  ∃ S', Foot S S' W W' ∧ Inb S' W' ∧ ((e = .returned (.bool true) ∧ J xs S' W') ∨ (e = .returned (.bool false) ∧ Jx xs S' W'))
def SeqEnd {α : Type} (J Jx : List α → (Nat → Prop) → World → Prop) (xs : List α) (S : Nat → Prop) (W : World) (e : Ending) (W' : World) : Prop :=
  (∃ v, e = .returned v) ∧ ∃ S', Foot S S' W W' ∧ Inb S' W' ∧ (J xs S' W' ∨ ∃ pre, pre <+: xs ∧ Jx pre S' W')
/-- AN ITERATOR's CONTRACT at the world W: it hands out xs, in order, or stops where a round says so. -/
def Gives {α : Type} (P : Program) (n : Nat) (gf : Nat) (lb : Array Value) (encs : α → Array Value) (xs : List α) (W : World) (A : (Nat → Prop) → Prop) : Prop :=
  ∀ (l : Nat) (J Jx : List α → (Nat → Prop) → World → Prop) (S : Nat → Prop), A S → Stab W.heap.size J → Stab W.heap.size Jx → Inb S W →
    (∀ pre x rest S1 W1, xs = pre ++ x :: rest → J pre S1 W1 → Inb S1 W1 → YieldAt Fence.wide (n - 1) P l (encs x) W1 (RoundEnd J Jx (pre ++ [x]) S1 W1)) →
    J [] S W → CallsIn Fence.wide n P gf (#[.func (.yield l) #[] #[]] ++ lb) W (SeqEnd J Jx xs S W)
/-- how a loop's body may be left -/
def Left {α : Type} (I : List α → (Nat → Prop) → World → Prop) (Ix : Code → List α → (Nat → Prop) → World → Prop) (xs : List α) (S : Nat → Prop) (W : World) : Exit → Act → World → Prop
  | .normal, _, W' => ∃ S', Foot S S' W W' ∧ Inb S' W' ∧ I xs S' W'
  | .ret, _, W' => ∃ S', Foot S S' W W' ∧ Inb S' W' ∧ Ix .ret xs S' W'
  | .exit id, _, W' => ∃ S', Foot S S' W W' ∧ Inb S' W' ∧ Ix (.exit id) xs S' W'
  | .goto t, _, W' => ∃ S', Foot S S' W W' ∧ Inb S' W' ∧ Ix (.goto t) xs S' W'
  | .panic _, _, _ => False
  | .outgrown, _, _ => False
theorem keeps_putObj (w : World) (l : Nat) (o : Obj) : Keeps (fun k => k = l) w (w.putObj l o) :=
  Keeps.mono (Keeps.of_grown (grownBy_putObj' w l o)) (fun k _ h => by injection h)
section
variable {P : Program} {n : Nat}
theorem wpIn_range {α : Type} {g : Operand} {ps : Array Tmp} {assign body : Code} {Q : Exit → Act → World → Prop} {a : Act} {w : World}
    {gf : Nat} {lb : Array Value} (hg : a.eval g = .func (.func gf) #[] lb) (eg : ∀ args w, (callFunc gf args).run P w = .ok (.enter gf args) w)
    {encs : α → Array Value} {xs : List α} {A : (Nat → Prop) → Prop} (hseq : ∀ W1, Keeps (fun _ => False) w W1 → Gives P (n - 1) gf lb encs xs W1 A) (hps : ∀ x, (encs x).size = ps.size)
    (I : List α → (Nat → Prop) → World → Prop) (Ix : Code → List α → (Nat → Prop) → World → Prop) (hI : Stab w.heap.size I) (hIx : ∀ c, Stab w.heap.size (Ix c))
    (S0 : Nat → Prop) (hS0 : Inb S0 w) (h0 : I [] S0 w) (hA : ∀ S, (∀ k, S k → S0 k ∨ w.heap.size ≤ k) → A S)
    (Mid : List α × α × Act → (Nat → Prop) → World → Prop) (hMid : Stab w.heap.size Mid)
    (hassign : ∀ l pre x rest S W, xs = pre ++ x :: rest → I pre S W → Inb S W → w.heap.size < W.heap.size →
      assign.wpIn (Fence.wide.inRound l) (n - 1 - 1) P (Exit.then (fun a1 W1 => ∃ S1, Foot S S1 W W1 ∧ Inb S1 W1 ∧ Mid (pre, x, a1) S1 W1) (fun _ _ _ => False))
        { tmps := (ps.zip (encs x)).foldl (fun t (p, v) => t.setIfInBounds p v) a.tmps, defers := [] } W)
    (hbody : ∀ l pre x rest a1 S W, xs = pre ++ x :: rest → Mid (pre, x, a1) S W → Inb S W → w.heap.size < W.heap.size → body.wpIn (Fence.wide.inRound l) (n - 1 - 1) P (Left I Ix (pre ++ [x]) S W) a1 W)
    (hdone : ∀ (D : Nat) S' W', w.heap.size ≤ D → ¬ S' D → Foot S0 S' w W' → Inb S' W' → I xs S' W' → W'.heap[D]? = some (.deferred (some [])) →
      Q .normal { a with defers := { target := .collected D, args := #[] } :: a.defers } W')
    (hstop : ∀ (D : Nat) (c : Code) pre S' W', w.heap.size ≤ D → ¬ S' D → Foot S0 S' w W' → Inb S' W' → pre <+: xs → Ix c pre S' W' → W'.heap[D]? = some (.deferred (some [])) →
      c.wpIn Fence.wide n P Q { a with defers := { target := .collected D, args := #[] } :: a.defers } W') :
    (Code.rangeFunc g ps assign body).wpIn Fence.wide n P Q a w := by
  refine wpIn_rangeFunc ?_
  intro fn hfn
  obtain ⟨rec, hrec⟩ : ∃ rec : LoopState → Option Code → Loop, rec = fun st pe => { state := st, pending := pe, fn, tmps := a.tmps, params := ps, assign, body, defers := w.heap.size } := ⟨_, rfl⟩
  obtain ⟨W1, hW1⟩ : ∃ W1, (w.alloc (.deferred (some []))).alloc (.loop (rec .ready none)) = W1 := ⟨_, rfl⟩
  have hz1 : W1.heap.size = w.heap.size + 2 := by rw [← hW1]; simp
  have hL1 : W1.heap[w.heap.size + 1]? = some (.loop (rec .ready none)) := by
    rw [← hW1]; have := World.alloc_heap_new (w.alloc (.deferred (some []))) (.loop (rec .ready none)); rwa [World.size_alloc] at this
  have hK1 : W1.heap[w.heap.size]? = some (.deferred (some [])) := by
    rw [← hW1]; exact (Below.heap_alloc _ _ _ (by simp)).trans (World.alloc_heap_new w _)
  have hk1 : Keeps (fun _ => False) w W1 := by rw [← hW1]; exact ((Keeps.refl _ w).alloc _).alloc _
  have hI1 : I [] S0 W1 := hI [] S0 _ w W1 h0 hS0 hk1 (fun _ _ h => h) (fun _ h => h.elim)
  refine ⟨w.heap.size + 1, [{ target := .collected w.heap.size, args := #[] }], W1, { target := .fn (.func gf) lb, args := #[.func (.yield (w.heap.size + 1)) #[] #[]] }, W1, gf,
    #[.func (.yield (w.heap.size + 1)) #[] #[]] ++ lb, W1, ?_, ?_, ?_, ?_, fun h => by simp [Fence.wide] at h, ?_⟩
  · rw [← hW1, hrec]; exact run_enterLoop_outer _ _ _ _ _
  · simp only [resolve, hg]
    simp [go_sem]
  · intro f' _; trivial
  · simp [invoke, go_sem, eg]
  · -- the two facts of book-keeping ride beside the invariant
    have jI : ∀ {β : Type} {K : β → (Nat → Prop) → World → Prop}, Stab w.heap.size K → ∀ (o : Obj), Stab W1.heap.size
        (fun s S' W => ∃ S, (∀ k, S' k ↔ S k ∨ k = w.heap.size + 1) ∧ ¬ S (w.heap.size + 1) ∧ ¬ S w.heap.size ∧ Inb S W ∧ K s S W ∧ W.heap[w.heap.size + 1]? = some o ∧ W.heap[w.heap.size]? = some (.deferred (some []))) := by
      intro β K hK o s S' T A B hj hi hk hd ht
      obtain ⟨S, h1, h2, h3, h4, h5, h6, h7⟩ := hj
      have hTl : ∀ k, k < W1.heap.size → ¬ T k := fun k hk' hT => by have := ht k hT; omega
      refine ⟨S, h1, h2, h3, h4.mono hk.size, hK s S T A B h5 h4 hk (fun k hs => hd k ((h1 k).2 (.inl hs))) (fun k hT => by have := ht k hT; omega), ?_, ?_⟩
      · exact (hk.block _ (Array.getElem?_eq_some_iff.1 h6).1 (hTl _ (by omega))).trans h6
      · exact (hk.block _ (Array.getElem?_eq_some_iff.1 h7).1 (hTl _ (by omega))).trans h7
    have hx : Stab W1.heap.size (fun pre S' W => ∃ c, ∃ S, (∀ k, S' k ↔ S k ∨ k = w.heap.size + 1) ∧ ¬ S (w.heap.size + 1) ∧ ¬ S w.heap.size ∧ Inb S W ∧ Ix c pre S W ∧ W.heap[w.heap.size + 1]? = some (.loop (rec .done (some c))) ∧ W.heap[w.heap.size]? = some (.deferred (some []))) := by
      intro s S' T A B hj hi hk hd ht
      obtain ⟨c, hj⟩ := hj
      exact ⟨c, jI (hIx c) _ s S' T A B hj hi hk hd ht⟩
    refine (hseq W1 hk1 (w.heap.size + 1) _ _ (fun k => S0 k ∨ k = w.heap.size + 1) (hA _ (fun k hk => hk.imp id (fun e => by omega))) (jI hI (.loop (rec .ready none))) hx
      (fun k hk => hk.elim (fun h => by have := hS0 k h; omega) (fun e => by omega)) ?_
      ⟨S0, fun k => Iff.rfl, fun h => by have := hS0 _ h; omega, fun h => by have := hS0 _ h; omega, hS0.mono hk1.size, hI1, hL1, hK1⟩).mono ?_
    · -- one round
      rintro pre x rest S' W hxs ⟨S, e1, e2, e3, hin, hi, hl, hk⟩ hin'
      have hlt : w.heap.size + 1 < W.heap.size := (Array.getElem?_eq_some_iff.1 hl).1
      have hy := run_yield (P := P) (args := encs x) hl (by rw [hrec]; exact hps x)
      rw [hrec] at hy
      refine ⟨fn, _, assign, body, hy, roundIn_of_wpIn hfn (wpIn_mono (hassign _ pre x rest S W hxs hi hin (by omega)) ?_)⟩
      intro e a1 Wa hpost
      cases e with
      | normal =>
        obtain ⟨Sa, hfa, hina, hmid⟩ := hpost
        have hla : Wa.heap[w.heap.size + 1]? = some (.loop (rec .ready none)) := (hfa.1.block _ hlt e2).trans hl
        have hka : Wa.heap[w.heap.size]? = some (.deferred (some [])) := (hfa.1.block _ (by omega) e3).trans hk
        have hSaL : ¬ Sa (w.heap.size + 1) := fun h => (hfa.2 _ h).elim e2 (fun h => by omega)
        have hSaD : ¬ Sa w.heap.size := fun h => (hfa.2 _ h).elim e3 (fun h => by omega)
        have hlta : w.heap.size + 1 < Wa.heap.size := (Array.getElem?_eq_some_iff.1 hla).1
        have hbr := run_beginRound (P := P) hla (by rw [hrec])
        obtain ⟨ob, hob⟩ : ∃ ob, ob = Obj.loop { rec .ready none with state := .busy } := ⟨_, rfl⟩
        rw [← hob] at hbr
        have hkp1 := keeps_putObj Wa (w.heap.size + 1) ob
        refine ⟨_, hbr, ?_⟩
        have hmid2 := hMid _ Sa _ _ _ hmid hina hkp1 (fun k hs e => hSaL (e ▸ hs)) (fun k e => by omega)
        have hl2 : (Wa.putObj (w.heap.size + 1) ob).heap[w.heap.size + 1]? = some (.loop { rec .ready none with state := .busy }) := by rw [← hob]; exact World.putObj_heap_same hlta
        have hk2 : (Wa.putObj (w.heap.size + 1) ob).heap[w.heap.size]? = some (.deferred (some [])) := (World.putObj_heap_other (by omega)).trans hka
        have hlt2 : w.heap.size + 1 < (Wa.putObj (w.heap.size + 1) ob).heap.size := (Array.getElem?_eq_some_iff.1 hl2).1
        refine wpIn_mono (hbody _ pre x rest a1 Sa _ hxs hmid2 (hina.mono hkp1.size) (by omega)) ?_
        generalize hWb : Wa.putObj (w.heap.size + 1) ob = Wb at *
        have fin : ∀ (jump : Option Code) (S2 : Nat → Prop) (W3 : World), Foot Sa S2 Wb W3 → Inb S2 W3 →
            (Instr.endRound (w.heap.size + 1) jump).run P W3 = .ok (.bool jump.isNone) (W3.putObj (w.heap.size + 1) (.loop (rec (if jump.isNone then .ready else .done) jump))) ∧
            (W3.putObj (w.heap.size + 1) (.loop (rec (if jump.isNone then .ready else .done) jump))).heap[w.heap.size + 1]? = some (.loop (rec (if jump.isNone then .ready else .done) jump)) ∧
            (W3.putObj (w.heap.size + 1) (.loop (rec (if jump.isNone then .ready else .done) jump))).heap[w.heap.size]? = some (.deferred (some [])) ∧
            ¬ S2 (w.heap.size + 1) ∧ ¬ S2 w.heap.size ∧ Foot S' (fun k => S2 k ∨ k = w.heap.size + 1) W (W3.putObj (w.heap.size + 1) (.loop (rec (if jump.isNone then .ready else .done) jump))) ∧
            Inb (fun k => S2 k ∨ k = w.heap.size + 1) (W3.putObj (w.heap.size + 1) (.loop (rec (if jump.isNone then .ready else .done) jump))) ∧
            Inb S2 (W3.putObj (w.heap.size + 1) (.loop (rec (if jump.isNone then .ready else .done) jump))) ∧
            (∀ (K : (Nat → Prop) → World → Prop), (∀ S (T : Nat → Prop) (W W' : World), K S W → Inb S W → Keeps T W W' → (∀ k, S k → ¬ T k) → (∀ k, T k → w.heap.size ≤ k) → K S W') → K S2 W3 → K S2 (W3.putObj (w.heap.size + 1) (.loop (rec (if jump.isNone then .ready else .done) jump)))) := by
          intro jump S2 W3 hf hin2
          have hl3 := (hf.1.block _ hlt2 hSaL).trans hl2
          have hk3 := (hf.1.block _ (by omega) hSaD).trans hk2
          have hS2L : ¬ S2 (w.heap.size + 1) := fun h => (hf.2 _ h).elim hSaL (fun h => by omega)
          have hS2D : ¬ S2 w.heap.size := fun h => (hf.2 _ h).elim hSaD (fun h => by omega)
          have hr := run_endRound (P := P) jump hl3
          have hlt3 : w.heap.size + 1 < W3.heap.size := (Array.getElem?_eq_some_iff.1 hl3).1
          have hkp2 := keeps_putObj W3 (w.heap.size + 1) (.loop (rec (if jump.isNone then .ready else .done) jump))
          have hin3 := hin2.mono hkp2.size
          refine ⟨by rw [hrec] at hr ⊢; exact hr, World.putObj_heap_same hlt3, (World.putObj_heap_other (by omega)).trans hk3, hS2L, hS2D, ?_, ?_, hin3, ?_⟩
          · have hs0 : ∀ k, S k → S' k := fun k h => (e1 k).2 (.inl h)
            have hsL : S' (w.heap.size + 1) := (e1 _).2 (.inr rfl)
            have t1 : Foot S' (fun k => Sa k ∨ k = w.heap.size + 1) W Wa := ⟨hfa.1.mono (fun k _ h => hs0 k h), fun k h => h.elim (fun h => (hfa.2 k h).imp (hs0 k) id) (fun e => .inl (e ▸ hsL))⟩
            have t2 : Foot (fun k => Sa k ∨ k = w.heap.size + 1) (fun k => Sa k ∨ k = w.heap.size + 1) Wa Wb := Foot.same (hkp1.mono (fun k _ e => .inr e))
            have t3 : Foot (fun k => Sa k ∨ k = w.heap.size + 1) (fun k => S2 k ∨ k = w.heap.size + 1) Wb W3 := ⟨hf.1.mono (fun k _ h => .inl h), fun k h => h.elim (fun h => (hf.2 k h).imp .inl id) (fun e => .inl (.inr e))⟩
            exact ((t1.trans t2).trans t3).trans (Foot.same (hkp2.mono (fun k _ e => .inr e)))
          · intro k h
            rcases h with h | h
            · exact hin3 k h
            · have := hkp2.size; omega
          · intro K hK hk
            exact hK S2 _ W3 _ hk hin2 hkp2 (fun k hs e => hS2L (e ▸ hs)) (fun k e => by omega)
        rintro e a3 W3 hp
        cases e with
        | normal =>
          obtain ⟨S2, hf, hin2, hi2⟩ := hp
          obtain ⟨g1, g2, g3, g4, g5, g6, g7, g8, g9⟩ := fin none S2 W3 hf hin2
          exact ⟨_, _, g1, _, g6, g7, .inl ⟨rfl, S2, fun k => Iff.rfl, g4, g5, g8, g9 (I (pre ++ [x])) (hI _) hi2, g2, g3⟩⟩
        | ret =>
          obtain ⟨S2, hf, hin2, hi2⟩ := hp
          obtain ⟨g1, g2, g3, g4, g5, g6, g7, g8, g9⟩ := fin (some .ret) S2 W3 hf hin2
          exact ⟨_, _, g1, _, g6, g7, .inr ⟨rfl, .ret, S2, fun k => Iff.rfl, g4, g5, g8, g9 (Ix .ret (pre ++ [x])) (hIx _ _) hi2, g2, g3⟩⟩
        | exit id =>
          obtain ⟨S2, hf, hin2, hi2⟩ := hp
          obtain ⟨g1, g2, g3, g4, g5, g6, g7, g8, g9⟩ := fin (some (.exit id)) S2 W3 hf hin2
          exact ⟨_, _, g1, _, g6, g7, .inr ⟨rfl, .exit id, S2, fun k => Iff.rfl, g4, g5, g8, g9 (Ix (.exit id) (pre ++ [x])) (hIx _ _) hi2, g2, g3⟩⟩
        | goto t =>
          obtain ⟨S2, hf, hin2, hi2⟩ := hp
          obtain ⟨g1, g2, g3, g4, g5, g6, g7, g8, g9⟩ := fin (some (.goto t)) S2 W3 hf hin2
          exact ⟨_, _, g1, _, g6, g7, .inr ⟨rfl, .goto t, S2, fun k => Iff.rfl, g4, g5, g8, g9 (Ix (.goto t) (pre ++ [x])) (hIx _ _) hi2, g2, g3⟩⟩
        | panic ch => exact hp.elim
        | outgrown => exact hp.elim
      | ret => exact hpost.elim
      | exit id => exact hpost.elim
      | goto t => exact hpost.elim
      | panic ch => exact hpost.elim
      | outgrown => exact hpost.elim
    · -- behind the iterator
      rintro e W2 ⟨⟨v, rfl⟩, S', hf, hin', h⟩
      have foot : ∀ S (o : Obj), (∀ k, S' k ↔ S k ∨ k = w.heap.size + 1) → ¬ S (w.heap.size + 1) → Foot S0 S w (W2.putObj (w.heap.size + 1) o) := by
        intro S o h1 h2
        refine ⟨?_, fun k hk => ?_⟩
        · exact ((hk1.mono (fun k _ h => h.elim)).then hf.1 (fun i hi hs => hs.resolve_right (by omega))).then (keeps_putObj W2 (w.heap.size + 1) o) (fun i hi e => by omega)
        · rcases hf.2 k ((h1 k).2 (.inl hk)) with (h | h) | h
          · exact .inl h
          · exact .inr (by omega)
          · exact .inr (by omega)
      rcases h with ⟨S, e1, e2, e3, hin, hi, hl, hk⟩ | ⟨pre, hpre, c, S, e1, e2, e3, hin, hi, hl, hk⟩
      · exact ⟨none, _, by have := run_endLoop (P := P) hl (by rw [hrec]; simp); rw [hrec] at this; exact this,
          hdone _ S _ (Nat.le_refl _) e3 (foot S _ e1 e2) (hin.mono (keeps_putObj W2 _ _).size) (hI _ S _ _ _ hi hin (keeps_putObj W2 _ _) (fun k hs e => e2 (e ▸ hs)) (fun k e => by omega)) ((World.putObj_heap_other (by omega)).trans hk)⟩
      · exact ⟨some c, _, by have := run_endLoop (P := P) hl (by rw [hrec]; simp); rw [hrec] at this; exact this,
          hstop _ c pre S _ (Nat.le_refl _) e3 (foot S _ e1 e2) (hin.mono (keeps_putObj W2 _ _).size) hpre (hIx c _ S _ _ _ hi hin (keeps_putObj W2 _ _) (fun k hs e => e2 (e ▸ hs)) (fun k e => by omega)) ((World.putObj_heap_other (by omega)).trans hk)⟩
end
end Mem
end Go.Proofs.Ytdbpfbokfmpgcaa
namespace Go.Proofs.Ytdbpfbokfmpgcaa
open Go.RowKit
set_option linter.unusedVariables false
attribute [local go_sem] Oper.semAt_some
namespace Tree
open Mem
/-- a slice of uint32 that reads as xs, in the world w; the row lies outside of S. -/
def U32s (w : World) (v : Value) (xs : List Nat) : Prop :=
  ∃ a c, v = .slice a xs.length c ∧ ∀ i x, xs[i]? = some x → ∃ b off, a = some ⟨b, off, none⟩ ∧ w.cell? ⟨b, off + i, none⟩ = some (.int .u32 ((x : Nat) : Int))
def rowOf (v : Value) (k : Nat) : Prop := ∃ a n c, v = .slice (some a) n c ∧ a.block = k
set_option maxRecDepth 100000 in
theorem values1_gives (n B : Nat) (v : Value) (xs : List Nat) (W : World) (hl : xs.length ≤ 9223372036854775807) (hB : W.cell? ⟨B, 0, none⟩ = some v) (hv : U32s W v xs) :
    Gives Try.prog n 35 #[.pointer (some ⟨B, 0, none⟩)] (fun x : Nat => #[.int .u32 (x : Int)]) xs W (fun S => ∀ k, S k → ¬ rowOf v k) := by
  intro l J Jx S hA hJ hJx hin hY h0
  obtain ⟨a, c, rfl, hx⟩ := hv
  refine callsIn_of_wp Try.func35 rfl trivial ?_ rfl
  simp only [Try.ntmps35, List.size_toArray, List.length_cons, List.length_nil, Nat.reduceAdd, Nat.reduceSub, Array.replicate_succ, Array.replicate_zero, List.push_toArray, List.append_toArray, List.nil_append, List.cons_append]
  have HY := Lib.hid hY; clear hY
  have HX := Lib.hid hx; clear hx
  gi_wp2
  gi_loopw [7] (fun p wr => ∃ (i : Nat) (Sk : Nat → Prop), i ≤ xs.length ∧ p = .int .i64 (i : Int) ∧ J (xs.take i) Sk wr ∧ Inb Sk wr ∧ Foot S Sk W wr) (fun p _ => xs.length - (intOf p).toNat)
  case atStart => exact ⟨0, S, Nat.zero_le _, rfl, by simpa using h0, hin, Foot.refl _ _⟩
  case round =>
    obtain ⟨i, Sk, hi, rfl, hj, hink, hf⟩ := hrel
    by_cases hlt : i < xs.length
    · obtain ⟨b, off, rfl, hc⟩ := HX.out i xs[i] (List.getElem?_eq_getElem hlt)
      have hns : ¬ S b := fun h => hA b h ⟨_, _, _, rfl, rfl⟩
      have hc' : wr.cell? ⟨b, off + i, none⟩ = some (.int .u32 ((xs[i] : Nat) : Int)) := hf.1.cell (p := ⟨b, off + i, none⟩) hc hns
      have hsplit : xs = xs.take i ++ xs[i] :: xs.drop (i + 1) := by rw [← List.drop_eq_getElem_cons hlt, List.take_append_drop]
      have htk : xs.take (i + 1) = xs.take i ++ [xs[i]] := (List.take_append_getElem hlt).symm
      obtain ⟨fn, tmps, assign, body, hy, hR⟩ := HY.out (xs.take i) xs[i] _ Sk wr hsplit hj hink
      have HT := Lib.hid htk; clear htk hsplit
      have HJ := Lib.hid hj; clear hj h0
      gi_wp2
      refine ⟨fun h => by simp [Fence.wide] at h, hR.mono ?_⟩
      rintro e W3 ⟨S3, hf3, hin3, (⟨rfl, hj3⟩ | ⟨rfl, hj3⟩)⟩
      · gi_wp2
        go_roundw
        case rel => exact ⟨i + 1, S3, by omega, by go_num, by rw [HT.out]; exact hj3, hin3, hf.trans hf3⟩
        case measure => simp [intOf]; omega
      · gi_wp2
        refine bodyPost_ret (results_none rfl _ _ _) rfl ?_
        exact ⟨⟨_, rfl⟩, S3, hf.trans hf3, hin3, .inr ⟨xs.take i ++ [xs[i]], ⟨xs.drop (i + 1), by simp⟩, hj3⟩⟩
    · obtain rfl : i = xs.length := by omega
      gi_wp2
      go_end0
      exact ⟨⟨_, rfl⟩, Sk, hf, hink, .inl (by simpa using hj)⟩
end Tree
end Go.Proofs.Ytdbpfbokfmpgcaa
namespace Go.Proofs.Ytdbpfbokfmpgcaa
open Go.RowKit
set_option linter.unusedVariables false
namespace Mem
theorem cells_set {b : Nat} {cs : List Value} (I : Nat → Prop) {W : World} {c j : Nat} {v : Value} (h : ∀ i, I i → W.cell? ⟨b, i, none⟩ = cs[i]?) (hj : b ≠ c ∨ ¬ I j) : ∀ i, I i → (W.setCell ⟨c, j, none⟩ v).cell? ⟨b, i, none⟩ = cs[i]? := fun i hi =>
  (World.cell?_setCell_other _ _ _ _ (by intro e; simp only [Addr.mk.injEq] at e; rcases hj with hj | hj; exact hj e.1.symm; exact hj (e.2.1 ▸ hi))).trans (h i hi)
theorem cells_drew {b : Nat} {cs : List Value} (I : Nat → Prop) {W : World} (h : ∀ i, I i → W.cell? ⟨b, i, none⟩ = cs[i]?) : ∀ i, I i → W.drew.cell? ⟨b, i, none⟩ = cs[i]? := h
theorem cells_blk {b : Nat} {t : TypeId} {cs : List Value} (I : Nat → Prop) {W : World} (h : Blk W b t cs) : ∀ i, I i → W.cell? ⟨b, i, none⟩ = cs[i]? := fun i _ => h.cell i
theorem all_drew {b : Nat} {cs : List Value} {W : World} (h : ∀ i : Nat, W.cell? ⟨b, i, none⟩ = cs[i]?) : ∀ i : Nat, W.drew.cell? ⟨b, i, none⟩ = cs[i]? := h
theorem all_far {b : Nat} {cs : List Value} {W : World} {c j : Nat} {v : Value} (h : ∀ i : Nat, W.cell? ⟨b, i, none⟩ = cs[i]?) (hb : b ≠ c) : ∀ i : Nat, (W.setCell ⟨c, j, none⟩ v).cell? ⟨b, i, none⟩ = cs[i]? := fun i =>
  (World.cell?_setCell_other _ _ _ _ (by intro e; simp only [Addr.mk.injEq] at e; exact hb e.1.symm)).trans (h i)
end Mem
end Go.Proofs.Ytdbpfbokfmpgcaa
namespace Go.Proofs.Ytdbpfbokfmpgcaa
open Go.RowKit Go.Shelf
set_option linter.unusedVariables false
set_option linter.unusedSimpArgs false
attribute [local go_sem] Oper.semAt_some
namespace Gr
open Mem
def Gave (v : Value) (w : World) (e : Ending) (w' : World) : Prop := e = .returned v ∧ Keeps (fun _ => False) w w'
theorem size_yes (w : World) : Calls Try.prog 39 #[.int .i64 10] w fun e w' => e = .returned (.bool true) ∧ w = w' := by
  go_enter Try.func39, Try.ntmps39
  go_wp2
  go_ret
  exact ⟨rfl, rfl⟩
theorem in_yes (x y : Int) (w : World) (hx : 0 ≤ x) (hy : 0 ≤ y) (hx2 : x ≤ 100) (hy2 : y ≤ 100) : Calls Try.prog 40 #[.agg #[.int .i32 x, .int .i32 y]] w fun e w' => e = .returned (.bool true) ∧ w.alloc (.cells #[.int .i32 x, .int .i32 y] 33) = w' := by
  have h1 : -1073741823 ≤ x := by omega
  have h2 : x ≤ 1073741823 := by omega
  have h3 : -1073741823 ≤ y := by omega
  have h4 : y ≤ 1073741823 := by omega
  clear hx hy hx2 hy2
  go_enter Try.func40, Try.ntmps40
  go_wp2
  go_ret
  exact ⟨rfl, rfl⟩
theorem pin_yes (x y : Int) (w : World) (hx : 0 ≤ x) (hy : 0 ≤ y) (hx2 : x ≤ 100) (hy2 : y ≤ 100) : Calls Try.prog 15 #[.agg #[.int .i32 x, .int .i32 y]] w fun e w' => e = .returned (.bool true) ∧ w.alloc (.cells #[.int .i32 x, .int .i32 y] 33) = w' := by
  have h1 : -1073741823 ≤ x := by omega
  have h2 : x ≤ 1073741823 := by omega
  have h3 : -1073741823 ≤ y := by omega
  have h4 : y ≤ 1073741823 := by omega
  clear hx hy hx2 hy2
  go_enter Try.func15, Try.ntmps15
  go_wp2
  go_ret
  exact ⟨rfl, rfl⟩
theorem floor_yes (n d : Int) (w : World) (hn : 0 ≤ n) (hn2 : n ≤ 1000000) (hd : 1 ≤ d) (hd2 : d ≤ 1000000) : Calls Try.prog 54 #[.int .i64 n, .int .i64 d] w fun e w' => e = .returned (.int .i64 (n / d)) ∧ w = w' := by
  have h0 : ¬ d = 0 := by omega
  have h1 : 0 ≤ n % d := Int.emod_nonneg _ h0
  have h2 : n % d < d := Int.emod_lt_of_pos _ (by omega)
  have h3 : 0 ≤ n / d := Int.ediv_nonneg hn (by omega)
  have h4 : n / d ≤ n := Int.ediv_le_self _ hn
  go_enter Try.func54, Try.ntmps54
  go_wp2
  go_ret
  exact ⟨rfl, rfl⟩
theorem box_yes (w : World) : Calls Try.prog 49 #[.agg #[.int .i32 0, .int .i32 0, .int .i32 3, .int .i32 3]] w (fun e w' => e = .returned (.bool true) ∧ (((w.alloc (.cells #[.int .i32 0, .int .i32 0, .int .i32 3, .int .i32 3] 35)).alloc (.cells #[.int .i32 0, .int .i32 0] 33)).alloc (.cells #[.int .i32 3, .int .i32 3] 33)) = w') := by
  go_enter Try.func49, Try.ntmps49
  go_wp2_with (go_at_call 40; refine (in_yes _ _ _ (by decide) (by decide) (by decide) (by decide)).mono ?_; rintro e w1 ⟨rfl, rfl⟩)
  go_ret
  exact ⟨rfl, rfl⟩
theorem right_yes (w : World) : Calls Try.prog 32 #[.agg #[.int .i32 0, .int .i32 0, .int .i32 3, .int .i32 3]] w (fun e w' => e = .returned (.bool true) ∧ (((w.alloc (.cells #[.int .i32 0, .int .i32 0, .int .i32 3, .int .i32 3] 35)).alloc (.cells #[.int .i32 0, .int .i32 0] 33)).alloc (.cells #[.int .i32 3, .int .i32 3] 33)) = w') := by
  go_enter Try.func32, Try.ntmps32
  go_wp2_with (go_at_call 15; refine (pin_yes _ _ _ (by decide) (by decide) (by decide) (by decide)).mono ?_; rintro e w1 ⟨rfl, rfl⟩)
  go_ret
  exact ⟨rfl, rfl⟩
set_option maxHeartbeats 4000000 in
theorem of_yes (x y : Int) (w : World) (hx : 0 ≤ x) (hy : 0 ≤ y) (hx2 : x ≤ 100) (hy2 : y ≤ 100) : Calls Try.prog 41 #[.agg #[.int .i32 x, .int .i32 y], .int .i64 10] w (fun e w' => e = .returned (.agg #[.int .i32 (x / 10), .int .i32 (y / 10)]) ∧ ((w.alloc (.cells #[.int .i32 x, .int .i32 y] 33)).alloc (.cells #[.int .i32 (x / 10), .int .i32 (y / 10)] 65)).drew = w') := by
  have h1 : IntKind.i32.wrap (x / 10) = x / 10 := IntWalk.i32_in _ (by omega)
  have h2 : IntKind.i32.wrap (y / 10) = y / 10 := IntWalk.i32_in _ (by omega)
  have cX := (Blk.new w 33 [.int .i32 x, .int .i32 y])
  have c1 := fun o => (cX.alloc o).drew.cell
  have h3 : IntKind.i64.wrap x = x := IntWalk.i64_in _ (by omega)
  have h4 : IntKind.i64.wrap y = y := IntWalk.i64_in _ (by omega)
  clear cX
  go_enter Try.func41, Try.ntmps41
  go_wp2
  go_region_held3 (fun W => ∀ i : Nat, W.cell? ⟨w.heap.size, i, none⟩ = ([.int .i32 x, .int .i32 y] : List Value)[i]?) (first | with_reducible assumption | exact c1 _) (first
    | (go_at_call 54; refine (floor_yes _ _ _ (by omega) (by omega) (by omega) (by omega)).mono ?_; rintro e w1 ⟨rfl, rfl⟩))
  all_goals
    go_wp2
    exact bodyPost_ret (results_cell_row rfl _ _ (w.heap.size + 1) 65 #[.int .i32 (x / 10), .int .i32 (y / 10)] _ _ rfl (by have := (Blk.new (w.alloc (.cells #[.int .i32 x, .int .i32 y] 33)) 65 [.int .i32 (x / 10), .int .i32 (y / 10)]).drew; simpa [Blk] using this) Try.underlying65 rfl (by kernel_rfl)) rfl ⟨rfl, rfl⟩
theorem of00 (w : World) : Calls Try.prog 41 #[.agg #[.int .i32 0, .int .i32 0], .int .i64 10] w (fun e w' => e = .returned (.agg #[.int .i32 0, .int .i32 0]) ∧ ((w.alloc (.cells #[.int .i32 0, .int .i32 0] 33)).alloc (.cells #[.int .i32 0, .int .i32 0] 65)).drew = w') := of_yes 0 0 w (by decide) (by decide) (by decide) (by decide)
theorem of33 (w : World) : Calls Try.prog 41 #[.agg #[.int .i32 3, .int .i32 3], .int .i64 10] w (fun e w' => e = .returned (.agg #[.int .i32 0, .int .i32 0]) ∧ ((w.alloc (.cells #[.int .i32 3, .int .i32 3] 33)).alloc (.cells #[.int .i32 0, .int .i32 0] 65)).drew = w') := of_yes 3 3 w (by decide) (by decide) (by decide) (by decide)
theorem of503 (w : World) : Calls Try.prog 41 #[.agg #[.int .i32 50, .int .i32 3], .int .i64 10] w (fun e w' => e = .returned (.agg #[.int .i32 5, .int .i32 0]) ∧ ((w.alloc (.cells #[.int .i32 50, .int .i32 3] 33)).alloc (.cells #[.int .i32 5, .int .i32 0] 65)).drew = w') := of_yes 50 3 w (by decide) (by decide) (by decide) (by decide)
set_option maxHeartbeats 4000000 in
theorem count_yes (w : World) : Calls Try.prog 33 #[.agg #[.int .i32 0, .int .i32 0, .int .i32 3, .int .i32 3], .int .i64 10] w (Gave (.int .i64 1) w) := by
  have HB := Lib.hid (Blk.new w 35 [.int .i32 0, .int .i32 0, .int .i32 3, .int .i32 3])
  have HK := Lib.hid (Keeps.refl (fun _ => False) (w.alloc (.cells #[.int .i32 0, .int .i32 0, .int .i32 3, .int .i32 3] 35)))
  go_enter Try.func33, Try.ntmps33
  go_wp2_with (first
    | (go_at_call 39; refine (size_yes _).mono ?_; rintro e w1 ⟨rfl, rfl⟩)
    | (go_at_call 49; refine (box_yes _).mono ?_; rintro e w1 ⟨rfl, rfl⟩))
  go_region_held3 (fun W => ∀ i : Nat, W.cell? ⟨w.heap.size, i, none⟩ = ([.int .i32 0, .int .i32 0, .int .i32 3, .int .i32 3] : List Value)[i]?) (first | with_reducible assumption | exact (HB.out.keeps (S := fun _ => False) (by (repeat (first | exact HK.out | refine Keeps.alloc ?_ _ | refine Keeps.drew ?_ | (refine Keeps.setCell ?_ (fun h => ?_) _; rotate_left; (exfalso; have hz := HK.out.size; simp at h hz; omega))))) (fun h => h)).cell) (first
    | (go_at_call 41; (first | (with_reducible refine (of00 _).mono ?_) | (with_reducible refine (of33 _).mono ?_)); rintro e w2 ⟨rfl, rfl⟩))
  all_goals
    go_wp2
    go_ret
    exact ⟨rfl, by repeat (first | exact Keeps.refl _ _ | refine Keeps.alloc ?_ _ | refine Keeps.drew ?_)⟩
end Gr
end Go.Proofs.Ytdbpfbokfmpgcaa
