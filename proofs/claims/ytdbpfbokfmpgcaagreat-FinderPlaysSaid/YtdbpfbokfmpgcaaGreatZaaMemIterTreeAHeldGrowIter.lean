/-
Words for memory that all the walks share: a block known whole, what a call keeps, a load and a store of a whole struct in the middle of a block, a scope with several labels.
IterQ: all ranges over a function from one law. A range over a function, by footprints: what the loop's body may write, what the iterator keeps.
slices.Values over numbers: its contract.
Held: some cells of a block, known: they stay known behind a draw, and behind a store elsewhere. Frames of some sizes.
Grow: a slice in a variable that a loop's body appends to.

frames opened
HeldIn: a region that draws its order, inside a fence: what yields in every world that meets S may be taken first.
Fr181: a frame of 181 slots.
App: one element more on a slice of one's own, whatever the element.

-/
import Derived.Test.YtdbpfbokfmpgcaaGreatRows
import Derived.WalkKit
import Derived.WalkSpells
import Derived.WalkLawsBesides
import Derived.Deep.QuietTactic
import Derived.BigQuiet
import Derived.Deep.MidRow
import Derived.Lib.Hide
import Derived.Great.BuildSlice
import Derived.Deep.LoopGhost
import Derived.RangeFuncNested
import Derived.RangeFuncBound
import Derived.RangeFuncCalls
import Derived.RangeFuncLeaves
import Derived.OwnWalkIn
import Derived.TacticsInMore
import Derived.LoopNIn
import Derived.LoopIn
import Derived.Deep.RegionHeld3
import Derived.Deep.RegionLaw
import Derived.Maps.AppendAt
import Derived.Maps.OwnIn
import Derived.OrdersHeld
import Derived.OrdersIn
import Derived.RangeFuncBox
set_option linter.unusedVariables false
set_option maxRecDepth 100000
attribute [local go_sem] Go.Oper.semAt_some
namespace Go.Proofs.YtdbpfbokfmpgcaaGreat
theorem Z8 {p : Prop} (h : p := by omega) : p := h
theorem ZAZ {p : Prop} (h : p := by have := run_endLoop (P := P) hl (by rw [hrec]; simp); rw [hrec] at this; exact this) : p := h
theorem ZAl {p : Prop} (h : p := by go_num) : p := h
theorem ZAx {p : Prop} (h : p := by unfold maxLen; omega) : p := h
theorem ZA7 {p : Prop} (h : p := by simp) : p := h
open Go.RowKit
namespace Mem

def Blk (w : World) (b : Nat) (t : TypeId) (cs : List Value) : Prop := w.heap[b]? = some (.cells cs.toArray t (0, 0))

structure Keeps (S : Nat → Prop) (w w' : World) : Prop where
 os : w'.os = w.os
 tape : w'.tape = w.tape
 output : w'.output = w.output
 size : w.heap.size ≤ w'.heap.size
 block : ∀ k, k < w.heap.size → ¬ S k → w'.heap[k]? = w.heap[k]?

section
variable {w w' w'' : World} {S T : Nat → Prop}
theorem Keeps.refl (S : Nat → Prop) (w : World) : Keeps S w w := ⟨rfl, rfl, rfl, Nat.le_refl _, fun _ _ _ => rfl⟩
theorem Keeps.trans (h : Keeps S w w') (k : Keeps S w' w'') : Keeps S w w'' :=
 ⟨k.os.trans h.os, k.tape.trans h.tape, k.output.trans h.output, Nat.le_trans h.size k.size, fun i hi hn => (k.block i (Nat.lt_of_lt_of_le hi h.size) hn).trans (h.block i hi hn)⟩
theorem Keeps.mono (h : Keeps S w w') (hs : ∀ k, k < w.heap.size → S k → T k) : Keeps T w w' := ⟨h.os, h.tape, h.output, h.size, fun k hk hn => h.block k hk (fun hS => hn (hs k hk hS))⟩
theorem Keeps.then (h : Keeps S w w') (k : Keeps T w' w'') (hs : ∀ i, i < w.heap.size → T i → S i) : Keeps S w w'' :=
 ⟨k.os.trans h.os, k.tape.trans h.tape, k.output.trans h.output, Nat.le_trans h.size k.size, fun i hi hn => (k.block i (Nat.lt_of_lt_of_le hi h.size) (fun hT => hn (hs i hi hT))).trans (h.block i hi hn)⟩
theorem Keeps.of_grown {row : Option Nat} (h : w.grownBy w' row) : Keeps (fun k => some k = row) w w' := ⟨h.os, h.tape, h.output, h.size, fun k hk hn => h.block k hk hn⟩
theorem Keeps.grown {row : Option Nat} (h : Keeps S w w') (g : w'.grownBy w'' row) (hs : ∀ k, k < w.heap.size → row = some k → S k) : Keeps S w w'' :=
 h.then (Keeps.of_grown g) (fun i hi he => hs i hi he.symm)
theorem Keeps.drew (h : Keeps S w w') : Keeps S w w'.drew := ⟨h.os, h.tape, h.output, h.size, h.block⟩
theorem Keeps.alloc (h : Keeps S w w') (o : Obj) : Keeps S w (w'.alloc o) :=
 ⟨h.os, h.tape, h.output, by simp; exact Nat.le_succ_of_le h.size, fun k hk hn => (Below.heap_alloc w' o k (Nat.lt_of_lt_of_le hk h.size)).trans (h.block k hk hn)⟩
theorem Keeps.setCell (h : Keeps S w w') {p : Addr} (hp : p.block < w.heap.size → S p.block) (u : Value) : Keeps S w (w'.setCell p u) :=
 ⟨h.os, h.tape, h.output, by simpa [World.setCell] using h.size, fun k hk hn => (Below.heap_setCell w' p u k (by rintro rfl; exact hn (hp hk))).trans (h.block k hk hn)⟩
theorem Keeps.below (h : Keeps S w w') {B : Nat} (hB : B ≤ w.heap.size) (hs : ∀ k, k < B → ¬ S k) : Below B w w' :=
 ⟨h.os, h.tape, h.output, h.size, fun k hk => h.block k (Nat.lt_of_lt_of_le hk hB) (hs k hk)⟩
theorem Keeps.of_below0 (h : Below w.heap.size w w') : Keeps (fun _ => False) w w' := ⟨h.os, h.tape, h.output, h.size, fun k hk _ => h.block k hk⟩
theorem Keeps.cell (h : Keeps S w w') {p : Addr} {v : Value} (hc : w.cell? p = some v) (hn : ¬ S p.block) : w'.cell? p = some v :=
 (World.cell?_of_block (h.block p.block (World.block_lt_of_cell? w p hc) hn)).trans hc

variable {b : Nat} {t : TypeId} {cs : List Value}
theorem Blk.lt (h : Blk w b t cs) : b < w.heap.size := by
 rcases Nat.lt_or_ge b w.heap.size with hlt | hge
 ·exact hlt
 ·unfold Blk at h; rw [Array.getElem?_eq_none hge] at h; cases h
theorem Blk.cell (h : Blk w b t cs) (i : Nat) : w.cell? ⟨b, i, none⟩ = cs[i]? := by
 rw [cell_of_row w b i _ t (0, 0) h]; simp
theorem Blk.frozen (h : Blk w b t cs) (i : Nat) : w.frozen? ⟨b, i, none⟩ = false := by
 unfold Blk at h
 simp [World.frozen?, h]
theorem Blk.new (w : World) (t : TypeId) (cs : List Value) : Blk (w.alloc (.cells cs.toArray t)) w.heap.size t cs := heap_alloc_new w _
theorem Blk.drew (h : Blk w b t cs) : Blk w.drew b t cs := h
theorem Blk.alloc (h : Blk w b t cs) (o : Obj) : Blk (w.alloc o) b t cs := (Below.heap_alloc w o b h.lt).trans h
theorem Blk.set_ (h : Blk w b t cs) (i : Nat) (u : Value) : Blk (w.setCell ⟨b, i, none⟩ u) b t (cs.set i u) := by
 unfold Blk at h ⊢
 simp [World.setCell, Array.getElem?_modify, h]
theorem Blk.far (h : Blk w b t cs) {p : Addr} (hp : b ≠ p.block) (u : Value) : Blk (w.setCell p u) b t cs := (Below.heap_setCell w p u b hp).trans h
theorem Blk.keeps (h : Blk w b t cs) (k : Keeps S w w') (hn : ¬ S b) : Blk w' b t cs := (k.block b h.lt hn).trans h
theorem Blk.kd (h : Blk w b t cs) (k : Keeps (fun _ => False) w' w'') (he : w'.heap = w.heap := by rfl) : Blk w'' b t cs := by
 have h' : Blk w' b t cs := by unfold Blk at h ⊢; rw [he]; exact h
 exact h'.keeps k (fun h => h)
theorem Keeps.td {w3 : World} (h : Keeps S w w') (k : Keeps T w'' w3) (hs : ∀ i, i < w.heap.size → T i → S i := by simp) (he : w''.heap = w'.heap := by rfl) (h1 : w''.os = w'.os := by rfl) (h2 : w''.tape = w'.tape := by rfl) (h3 : w''.output = w'.output := by rfl) : Keeps S w w3 := by
 have h' : Keeps S w w'' := ⟨h1.trans h.os, h2.trans h.tape, h3.trans h.output, by rw [he]; exact h.size, fun k hk hn => by rw [he]; exact h.block k hk hn⟩
 exact h'.then k hs
theorem Blk.below {B : Nat} (h : Blk w b t cs) (k : Below B w w') (hn : b < B) : Blk w' b t cs := (k.block b hn).trans h
theorem Blk.grown {row : Option Nat} (h : Blk w b t cs) (hb : w.grownBy w' row) (hg : some b ≠ row) : Blk w' b t cs := (hb.block b h.lt hg).trans h
theorem Blk.ne_ {b' : Nat} {t' : TypeId} {cs' : List Value} (h : Blk w b t cs) (h' : Blk w b' t' cs') (hne : t ≠ t') : b ≠ b' := by
 rintro rfl
 unfold Blk at h h'
 rw [h] at h'
 injection h' with h'
 injection h' with _ ht
 exact hne ht
theorem own_ne {base : Nat} {e : TypeId} {size n : Nat} {v : Value} {xs : List Value} (h : w.ownsRow base e size v n xs) (hg : Blk w b t cs) (hne : e ≠ t) : some b ≠ v.ownBlock := by
 rcases h.2 with ⟨rfl, _⟩ | ⟨g', cap, cur, rfl, _, hh, _⟩
 ·simp [Value.ownBlock]
 ·intro he
  have : b = g' := by simpa [Value.ownBlock] using he
  subst this
  exact Blk.ne_ (t := e) (cs := cur.toList) (by unfold Blk; simpa using hh) hg hne rfl
theorem owns_keeps {base : Nat} {e : TypeId} {size n : Nat} {v : Value} {xs : List Value} (h : w.ownsRow base e size v n xs) (k : Keeps S w w') (hn : ∀ b, v.ownBlock = some b → ¬ S b) : w'.ownsRow base e size v n xs := by
 refine ⟨h.1, ?_⟩
 rcases h.2 with hn' | ⟨g, cap, cur, rfl, hb, hgg, rest⟩
 ·exact .inl hn'
 ·refine .inr ⟨g, cap, cur, rfl, hb, ?_, rest⟩
  rw [k.block g (Array.getElem?_eq_some_iff.1 hgg).1 (hn g rfl)]
  exact hgg
theorem grown_setCell (w : World) (p : Addr) (u : Value) : w.grownBy (w.setCell p u) (some p.block) :=
 ⟨rfl, rfl, rfl, by simp [World.setCell], fun k _ hk => Below.heap_setCell _ _ _ _ (fun e => hk (by rw [e]))⟩
theorem owns_setCell {base : Nat} {e : TypeId} {size n : Nat} {v : Value} {xs : List Value} (h : w.ownsRow base e size v n xs) {p : Addr} (hp : v.ownBlock ≠ some p.block) (u : Value) : (w.setCell p u).ownsRow base e size v n xs :=
 h.kept (grown_setCell w p u) (.inr hp)
theorem owns_base {base base' : Nat} {e : TypeId} {size n : Nat} {v : Value} {xs : List Value} (h : w.ownsRow base e size v n xs) (hb : base' ≤ base) : w.ownsRow base' e size v n xs := by
 refine ⟨h.1, ?_⟩
 rcases h.2 with hn' | ⟨g, cap, cur, rfl, hb', rest⟩
 ·exact .inl hn'
 ·exact .inr ⟨g, cap, cur, rfl, Nat.le_trans hb hb', rest⟩
end

section
variable {P : Program} {ops : Array Oper} {rest : List Oper} {o : Oper} {a : Act} {w : World} {Q : Exit → Act → World → Prop}
end

section
variable {P : Program} {ops : Array Oper} {rest : List Oper} {o : Oper} {a : Act} {w : World} {Q : Exit → Act → World → Prop}
end

section
variable {P : Program} {ops : Array Oper} {rest : List Oper} {o : Oper} {a : Act} {w : World} {Q : Exit → Act → World → Prop}
end
section
variable {P : Program}
end
theorem own_slice {w : World} {base : Nat} {e : TypeId} {size n : Nat} {v : Value} {xs : List Value} (h : w.ownsRow base e size v n xs) : ∃ a c, v = .slice a n c := by
 rcases h.2 with ⟨rfl, rfl⟩ | ⟨g, cap, cur, rfl, _⟩
 ·exact ⟨none, 0, rfl⟩
 ·exact ⟨_, _, rfl⟩
theorem results_row_tmp {P : Program} {fn : Func} {p u : Tmp} {ty : TypeId} (h : fn.results = #[.cell p ty, .tmp u]) (tmps : Array Value) (w : World) (g : Nat) (t : TypeId) (cs : Array Value) (fr : Nat × Nat) (d : TypeDesc)
 (hp : tmps.getD p undef = .pointer (some ⟨g, 0, none⟩)) (hg : w.heap[g]? = some (.cells cs t fr))
 (hu : P.underlying ty = some d) (hd : (match d with | .struct _ | .array _ _ => true | _ => false) = true) (hi : (P.info? ty).map (·.size) = some cs.size) :
 (results fn tmps).run P w = .ok (.tuple #[.agg cs, tmps.getD u undef]) w := by
 rw [results_cell_tmp h, hp]
 simp [asAddr, run_loadVar_row w g t ty cs fr d hg hu hd hi]
theorem run_make_rowN {P : Program} (t e : TypeId) (i : TypeInfo) (z : Value) (size bytes : Nat) (ht : P.underlying t = some (.slice e)) (hi : P.info? e = some i) (hz : i.zero = some z) (hsz : i.size = size) (hby : i.bytes = bytes)
 (kl kc : IntKind) (n c : Nat) (hnc : n ≤ c) (hbytes : bytes * c ≤ 281474976710656) (h63 : c ≤ 9223372036854775807) (w : World) :
 (Instr.makeSlice t (.int kl (n : Int)) (.int kc (c : Int))).run P w = .ok (.slice (some ⟨w.heap.size, 0, none⟩) n c) (w.alloc (.cells (madeCells z.cells (c * size)) e)) := by
 subst hsz
 have hb : (i.bytes : Int) * (c : Int) ≤ 281474976710656 := by
  rw [hby]
  have h : ((bytes * c : Nat) : Int) ≤ 281474976710656 := by omega
  rwa [Int.natCast_mul] at h
 have hr := run_make (P := P) w t e i z ht hi hz kl kc n c Z8 Z8 hb Z8
 simp only [Int.toNat_natCast] at hr
 exact hr
def Outs (N : Act → World → Prop) (X : Nat → Act → World → Prop) (R : Act → World → Prop) : Exit → Act → World → Prop
 | .normal, a, w => N a w
 | .exit n, a, w => X n a w
 | .ret, a, w => R a w
 | _, _, _ => False
section
variable (N : Act → World → Prop) (X : Nat → Act → World → Prop) (R : Act → World → Prop) (a : Act) (w : World)
theorem Outs_normal : Outs N X R .normal a w = N a w := rfl
theorem Outs_exit (n : Nat) : Outs N X R (.exit n) a w = X n a w := rfl
theorem Outs_ret : Outs N X R .ret a w = R a w := rfl
end
attribute [go_sem] Outs_normal Outs_exit Outs_ret
theorem Outs.mono {Q : Exit → Act → World → Prop} {N : Act → World → Prop} {X : Nat → Act → World → Prop} {R : Act → World → Prop}
 (hN : ∀ a w, N a w → Q .normal a w) (hX : ∀ n a w, X n a w → Q (.exit n) a w) (hR : ∀ a w, R a w → Q .ret a w) : ∀ e a w, Outs N X R e a w → Q e a w := by
 intro e a w h
 cases e with
 | normal => exact hN a w h
 | exit n => exact hX n a w h
 | ret => exact hR a w h
 | _ => exact h.elim
def loops : Code → List Code
 | .loop c => c :: loops c
 | .seq a b => loops a ++ loops b
 | .block _ c => loops c
 | .scope c => loops c
 | .cond _ a b => loops a ++ loops b
 | .rangeFunc _ _ a b => loops a ++ loops b
 | _ => []
theorem news_new (w : World) (t : TypeId) (cs : List Value) : ∀ j u, cs[j]? = some u → (w.alloc (.cells cs.toArray t)).cell? ((⟨w.heap.size, 0, none⟩ : Addr).add j) = some u := by
 intro j u h
 rw [Addr.add_mid, Nat.zero_add, (Blk.new w t cs).cell]
 exact h
section
variable {α : Type} {f : α → List Value} {k : Nat}
theorem flat_drop (hk : ∀ x, (f x).length = k) : ∀ (l : List α) (i : Nat), (l.flatMap f).drop (i * k) = (l.drop i).flatMap f
 | [], i => by simp
 | x :: l, 0 => by simp
 | x :: l, i + 1 => by
  have h : ((x :: l).flatMap f).drop ((i + 1) * k) = (l.flatMap f).drop (i * k) := by
   rw [List.flatMap_cons, show (i + 1) * k = (f x).length + i * k by rw [hk]; simp [Nat.add_mul, Nat.add_comm], List.drop_append, List.drop_of_length_le Z8, List.nil_append, Nat.add_sub_cancel_left]
  rw [h, flat_drop hk l i]; simp
theorem flat_take (hk : ∀ x, (f x).length = k) : ∀ (l : List α) (i : Nat), (l.flatMap f).take (i * k) = (l.take i).flatMap f
 | [], i => by simp
 | x :: l, 0 => by simp
 | x :: l, i + 1 => by
  rw [List.flatMap_cons, show (i + 1) * k = (f x).length + i * k by rw [hk]; simp [Nat.add_mul, Nat.add_comm], List.take_append]
  simp only [List.take_succ_cons, List.flatMap_cons]
  rw [List.take_of_length_le Z8, show (f x).length + i * k - (f x).length = i * k by omega, flat_take hk l i]
theorem flat_get (hk : ∀ x, (f x).length = k) (l : List α) (i : Nat) (x : α) (hx : l[i]? = some x) : ((l.flatMap f).drop (i * k)).take k = f x := by
 rw [flat_drop hk]
 have hi : i < l.length := (List.getElem?_eq_some_iff.1 hx).1
 rw [List.drop_eq_getElem_cons hi]
 have : l[i] = x := (List.getElem?_eq_some_iff.1 hx).2
 rw [this, List.flatMap_cons, ← hk x, List.take_left]
theorem flat_cell (hk : ∀ x, (f x).length = k) (l : List α) (i j : Nat) (hj : j < k) (x : α) (hx : l[i]? = some x) : (l.flatMap f)[i * k + j]? = (f x)[j]? := by
 have h := flat_get hk l i x hx
 rw [← h, List.getElem?_take, if_pos hj, List.getElem?_drop]
end

def Jumps (J : Nat → Act → World → Prop) (Q : Exit → Act → World → Prop) : Exit → Act → World → Prop
 | .goto l, a, w => J l a w
 | e, a, w => Q e a w
section
variable {P : Program} {a : Act} {w : World} {Q : Exit → Act → World → Prop}
theorem Jumps_ret (J : Nat → Act → World → Prop) : Jumps J Q .ret a w = Q .ret a w := rfl
theorem Jumps_normal (J : Nat → Act → World → Prop) : Jumps J Q .normal a w = Q .normal a w := rfl
theorem Jumps_exit (J : Nat → Act → World → Prop) (id : Nat) : Jumps J Q (.exit id) a w = Q (.exit id) a w := rfl
theorem Jumps_goto (J : Nat → Act → World → Prop) (l : Nat) : Jumps J Q (.goto l) a w = J l a w := rfl
attribute [go_sem] Jumps_ret Jumps_normal Jumps_exit Jumps_goto
def Fr (a : Act) (n : Nat) (l : List (Nat × Value)) : Prop := a.tmps.size = n ∧ a.defers = [] ∧ ∀ p ∈ l, a.tmps.getD p.1 undef = p.2
theorem cons_of {l : List Value} {n : Nat} (h : l.length = n + 1) : ∃ x r, l = x :: r ∧ r.length = n := by
 cases l with
 | nil => simp at h
 | cons x r => exact ⟨x, r, rfl, by simpa using h⟩
theorem Fr.at_ {a : Act} {n : Nat} {l : List (Nat × Value)} (h : Fr a n l) (i : Nat) (v : Value) (hm : (i, v) ∈ l) : a.tmps.getD i undef = v := h.2.2 (i, v) hm
end
end Mem
open Go.RowKit
namespace Mem
def Foot (S S' : Nat → Prop) (w w' : World) : Prop := Keeps S w w' ∧ ∀ k, S' k → S k ∨ w.heap.size ≤ k
def Inb (S : Nat → Prop) (w : World) : Prop := ∀ k, S k → k < w.heap.size
section
variable {S S' S'' T : Nat → Prop} {w w' w'' : World}
theorem Foot.refl (S : Nat → Prop) (w : World) : Foot S S w w := ⟨Keeps.refl _ _, fun _ h => .inl h⟩
theorem Foot.trans (h : Foot S S' w w') (k : Foot S' S'' w' w'') : Foot S S'' w w'' :=
 ⟨h.1.then k.1 (fun i hi hs => (h.2 i hs).resolve_right Z8), fun i hi => by
   rcases k.2 i hi with h1 | h1
   ·exact h.2 i h1
   ·exact .inr (Nat.le_trans h.1.size h1)⟩
theorem Foot.same (h : Keeps S w w') : Foot S S w w' := ⟨h, fun _ h => .inl h⟩
theorem Inb.mono (h : Inb S w) (hs : w.heap.size ≤ w'.heap.size) : Inb S w' := fun k hk => Nat.lt_of_lt_of_le (h k hk) hs
end
def Stab {β : Type} (b : Nat) (J : β → (Nat → Prop) → World → Prop) : Prop :=
 ∀ s S (T : Nat → Prop) (W W' : World), J s S W → Inb S W → Keeps T W W' → (∀ k, S k → ¬ T k) → (∀ k, T k → b ≤ k) → J s S W'
theorem Stab.mono {β : Type} {b b' : Nat} {J : β → (Nat → Prop) → World → Prop} (h : Stab b J) (hb : b ≤ b') : Stab b' J :=
 fun s S T W W' hj hi hk hd ht => h s S T W W' hj hi hk hd (fun k hk' => Nat.le_trans hb (ht k hk'))
def RoundEnd {α : Type} (J Jx : List α → (Nat → Prop) → World → Prop) (xs : List α) (S : Nat → Prop) (W : World) (e : Ending) (W' : World) : Prop :=
 ∃ S', Foot S S' W W' ∧ Inb S' W' ∧ ((e = .returned (.bool true) ∧ J xs S' W') ∨ (e = .returned (.bool false) ∧ Jx xs S' W'))
def SeqEnd {α : Type} (J Jx : List α → (Nat → Prop) → World → Prop) (xs : List α) (S : Nat → Prop) (W : World) (e : Ending) (W' : World) : Prop :=
 (∃ v, e = .returned v) ∧ ∃ S', Foot S S' W W' ∧ Inb S' W' ∧ (J xs S' W' ∨ ∃ pre, pre <+: xs ∧ Jx pre S' W')
def Gives {α : Type} (P : Program) (n : Nat) (gf : Nat) (lb : Array Value) (encs : α → Array Value) (xs : List α) (W : World) (A : (Nat → Prop) → Prop) : Prop :=
 ∀ (l : Nat) (J Jx : List α → (Nat → Prop) → World → Prop) (S : Nat → Prop), A S → Stab W.heap.size J → Stab W.heap.size Jx → Inb S W →
  (∀ pre x rest S1 W1, xs = pre ++ x :: rest → J pre S1 W1 → Inb S1 W1 → YieldAt Fence.wide (n - 1) P l (encs x) W1 (RoundEnd J Jx (pre ++ [x]) S1 W1)) →
  J [] S W → CallsIn Fence.wide n P gf (#[.func (.yield l) #[] #[]] ++ lb) W (SeqEnd J Jx xs S W)
def Left {α : Type} (I : List α → (Nat → Prop) → World → Prop) (Ix : Code → List α → (Nat → Prop) → World → Prop) (xs : List α) (S : Nat → Prop) (W : World) : Exit → Act → World → Prop
 | .normal, _, W' => ∃ S', Foot S S' W W' ∧ Inb S' W' ∧ I xs S' W'
 | .ret, _, W' => ∃ S', Foot S S' W W' ∧ Inb S' W' ∧ Ix .ret xs S' W'
 | .exit id, _, W' => ∃ S', Foot S S' W W' ∧ Inb S' W' ∧ Ix (.exit id) xs S' W'
 | .goto t, _, W' => ∃ S', Foot S S' W W' ∧ Inb S' W' ∧ Ix (.goto t) xs S' W'
 | .panic _, _, _ => False
 | .outgrown, _, _ => False
theorem keeps_putObj (w : World) (l : Nat) (o : Obj) : Keeps (fun k => k = l) w (w.putObj l o) :=
 Keeps.mono (Keeps.of_grown (grownBy_putObj' w l o)) (fun k _ h => by injection h)
def GivesO {α : Type} (P : Program) (n : Nat) (gf : Nat) (lb : Array Value) (encs : α → Array Value) (xs : List α) (W : World) (A : (Nat → Prop) → Prop) (O : Nat → Prop) : Prop :=
 ∀ (l : Nat) (J Jx : List α → (Nat → Prop) → World → Prop) (S : Nat → Prop), A S → Stab W.heap.size J → Stab W.heap.size Jx → Inb S W → (∀ W1 W2, J [] S W1 → Inb S W1 → Keeps O W1 W2 → J [] S W2) →
  (∀ pre x rest S1 W1, xs = pre ++ x :: rest → J pre S1 W1 → Inb S1 W1 → YieldAt Fence.wide (n - 1) P l (encs x) W1 (RoundEnd J Jx (pre ++ [x]) S1 W1)) →
  J [] S W → CallsIn Fence.wide n P gf (#[.func (.yield l) #[] #[]] ++ lb) W (fun e W' => (∃ v, e = .returned v) ∧ ∃ S', Foot (fun k => S k ∨ O k) S' W W' ∧ Inb S' W' ∧ (J xs S' W' ∨ ∃ pre, pre <+: xs ∧ Jx pre S' W'))
theorem GivesO.any {α : Type} {P : Program} {n n' gf : Nat} {lb : Array Value} {encs : α → Array Value} {xs : List α} {W : World} {A : (Nat → Prop) → Prop} {O : Nat → Prop} (h : GivesO P n gf lb encs xs W A O) : GivesO P n' gf lb encs xs W A O := by
 intro l J Jx S hA hJ hJx hin hO hY h0
 refine callsIn_wide.2 (callsIn_wide.1 (h l J Jx S hA hJ hJx hin hO (fun pre x rest S1 W1 e hj hi => ?_) h0))
 obtain ⟨fn, tmps, assign, body, hy, hF, hR⟩ := hY pre x rest S1 W1 e hj hi
 exact ⟨fn, tmps, assign, body, hy, hF, fun c cs _ => hR c cs (room_wide _)⟩
def GivesP {α : Type} (P : Program) (n : Nat) (gf : Nat) (lb : Array Value) (encs : α → Array Value) (Nx : List α → α → Prop) (Fin : List α → Prop) (W : World) (A : (Nat → Prop) → Prop) (O : Nat → Prop) : Prop :=
 ∀ (l : Nat) (J Jx : List α → (Nat → Prop) → World → Prop) (S : Nat → Prop), A S → Stab W.heap.size J → Stab W.heap.size Jx → Inb S W → (∀ W1 W2, J [] S W1 → Inb S W1 → Keeps O W1 W2 → J [] S W2) →
  (∀ pre x S1 W1, Nx pre x → J pre S1 W1 → Inb S1 W1 → YieldAt Fence.wide (n - 1) P l (encs x) W1 (RoundEnd J Jx (pre ++ [x]) S1 W1)) →
  J [] S W → CallsIn Fence.wide n P gf (#[.func (.yield l) #[] #[]] ++ lb) W (fun e W' => (∃ v, e = .returned v) ∧ ∃ S', Foot (fun k => S k ∨ O k) S' W W' ∧ Inb S' W' ∧ ((∃ ys, Fin ys ∧ J ys S' W') ∨ ∃ pre, Jx pre S' W'))
theorem GivesP.of {α : Type} {P : Program} {n gf : Nat} {lb : Array Value} {encs : α → Array Value} {xs : List α} {W : World} {A : (Nat → Prop) → Prop} (h : Gives P n gf lb encs xs W A) : GivesP P n gf lb encs (fun pre x => ∃ rest, xs = pre ++ x :: rest) (fun ys => ys = xs) W A (fun _ => False) := by
 intro l J Jx S hA hJ hJx hin hO hY h0
 refine (h l J Jx S hA hJ hJx hin (fun pre x rest S1 W1 e hj hi => hY pre x S1 W1 ⟨rest, e⟩ hj hi) h0).mono ?_
 rintro e W' ⟨hv, S', hf, hi, hr⟩
 refine ⟨hv, S', ⟨hf.1.mono (fun _ _ h => .inl h), fun k hk => (hf.2 k hk).imp .inl id⟩, hi, ?_⟩
 rcases hr with hr | ⟨pre, _, hr⟩
 ·exact .inl ⟨xs, rfl, hr⟩
 ·exact .inr ⟨pre, hr⟩
section
variable {P : Program} {n : Nat}
theorem wpIn_rangeP {α : Type} {g : Operand} {ps : Array Tmp} {assign body : Code} {Q : Exit → Act → World → Prop} {a : Act} {w : World}
 {gf : Nat} {lb : Array Value} (hg : a.eval g = .func (.func gf) #[] lb) (eg : ∀ args w, (callFunc gf args).run P w = .ok (.enter gf args) w)
 {encs : α → Array Value} {Nx : List α → α → Prop} {Fin : List α → Prop} {A : (Nat → Prop) → Prop} {O : Nat → Prop} (hO : ∀ k, O k → k < w.heap.size) (hseq : ∀ W1, Keeps (fun _ => False) w W1 → GivesP P (n - 1) gf lb encs Nx Fin W1 A O) (hps : ∀ x, (encs x).size = ps.size)
 (I : List α → (Nat → Prop) → World → Prop) (Ix : Code → List α → (Nat → Prop) → World → Prop) (hI : Stab w.heap.size I) (hIx : ∀ c, Stab w.heap.size (Ix c))
 (S0 : Nat → Prop) (hS0 : Inb S0 w) (h0 : I [] S0 w) (hIO : ∀ S W W', I [] S W → Inb S W → Keeps O W W' → I [] S W') (hA : ∀ S, (∀ k, S k → S0 k ∨ w.heap.size ≤ k) → A S)
 (Mid : List α × α × Act → (Nat → Prop) → World → Prop) (hMid : Stab w.heap.size Mid)
 (hassign : ∀ l pre x S W, Nx pre x → I pre S W → Inb S W → w.heap.size < W.heap.size →
   assign.wpIn (Fence.wide.inRound l) (n - 1 - 1) P (Exit.then (fun a1 W1 => ∃ S1, Foot S S1 W W1 ∧ Inb S1 W1 ∧ Mid (pre, x, a1) S1 W1) (fun _ _ _ => False))
    { tmps := (ps.zip (encs x)).foldl (fun t (p, v) => t.setIfInBounds p v) a.tmps, defers := [] } W)
 (hbody : ∀ l pre x a1 S W, Nx pre x → Mid (pre, x, a1) S W → Inb S W → w.heap.size < W.heap.size → (w.heap.size ≤ l ∧ ¬ S l ∧ ∃ r, W.heap[l]? = some (.loop r)) → body.wpIn (Fence.wide.inRound l) (n - 1 - 1) P (Left I Ix (pre ++ [x]) S W) a1 W)
 (hdone : ∀ (D : Nat) ys S' W', Fin ys → w.heap.size ≤ D → ¬ S' D → Foot (fun k => S0 k ∨ O k) S' w W' → Inb S' W' → I ys S' W' → W'.heap[D]? = some (.deferred (some [])) →
   Q .normal { a with defers := { target := .collected D, args := #[] } :: a.defers } W')
 (hstop : ∀ (D : Nat) (c : Code) pre S' W', w.heap.size ≤ D → ¬ S' D → Foot (fun k => S0 k ∨ O k) S' w W' → Inb S' W' → Ix c pre S' W' → W'.heap[D]? = some (.deferred (some [])) →
   c.wpIn Fence.wide n P Q { a with defers := { target := .collected D, args := #[] } :: a.defers } W') :
 (Code.rangeFunc g ps assign body).wpIn Fence.wide n P Q a w := by
 refine wpIn_rangeFunc ?_
 intro fn hfn
 obtain ⟨rec, hrec⟩ : ∃ rec : LoopState → Option Code → Loop, rec = fun st pe => { state := st, pending := pe, fn, tmps := a.tmps, params := ps, assign, body, defers := w.heap.size } := ⟨_, rfl⟩
 obtain ⟨W1, hW1⟩ : ∃ W1, (w.alloc (.deferred (some []))).alloc (.loop (rec .ready none)) = W1 := ⟨_, rfl⟩
 have hz1 : W1.heap.size = w.heap.size + 2 := by rw [← hW1]; simp
 have hL1 : W1.heap[w.heap.size + 1]? = some (.loop (rec .ready none)) := by
  rw [← hW1]; have := World.alloc_heap_new (w.alloc (.deferred (some []))) (.loop (rec .ready none)); rwa [World.size_alloc] at this
 have hK1 : W1.heap[w.heap.size]? = some (.deferred (some [])) := by
  rw [← hW1]; exact (Below.heap_alloc _ _ _ ZA7).trans (World.alloc_heap_new w _)
 have hk1 : Keeps (fun _ => False) w W1 := by rw [← hW1]; exact ((Keeps.refl _ w).alloc _).alloc _
 have hI1 : I [] S0 W1 := hI [] S0 _ w W1 h0 hS0 hk1 (fun _ _ h => h) (fun _ h => h.elim)
 refine ⟨w.heap.size + 1, [{ target := .collected w.heap.size, args := #[] }], W1, { target := .fn (.func gf) lb, args := #[.func (.yield (w.heap.size + 1)) #[] #[]] }, W1, gf,
  #[.func (.yield (w.heap.size + 1)) #[] #[]] ++ lb, W1, ?_, ?_, ?_, ?_, fun h => by simp [Fence.wide] at h, ?_⟩
 ·rw [← hW1, hrec]; exact run_enterLoop_outer _ _ _ _ _
 ·simp only [resolve, hg]
  simp [go_sem]
 ·intro f' _; trivial
 ·simp [invoke, go_sem, eg]
 ·-- the two facts of book-keeping ride beside the invariant
  have jI : ∀ {β : Type} {K : β → (Nat → Prop) → World → Prop}, Stab w.heap.size K → ∀ (o : Obj), Stab W1.heap.size
   (fun s S' W => ∃ S, (∀ k, S' k ↔ S k ∨ k = w.heap.size + 1) ∧ ¬ S (w.heap.size + 1) ∧ ¬ S w.heap.size ∧ Inb S W ∧ K s S W ∧ W.heap[w.heap.size + 1]? = some o ∧ W.heap[w.heap.size]? = some (.deferred (some []))) := by
   intro β K hK o s S' T A B hj hi hk hd ht
   obtain ⟨S, h1, h2, h3, h4, h5, h6, h7⟩ := hj
   have hTl : ∀ k, k < W1.heap.size → ¬ T k := fun k hk' hT => by have := ht k hT; omega
   refine ⟨S, h1, h2, h3, h4.mono hk.size, hK s S T A B h5 h4 hk (fun k hs => hd k ((h1 k).2 (.inl hs))) (fun k hT => by have := ht k hT; omega), ?_, ?_⟩
   ·exact (hk.block _ (Array.getElem?_eq_some_iff.1 h6).1 (hTl _ Z8)).trans h6
   ·exact (hk.block _ (Array.getElem?_eq_some_iff.1 h7).1 (hTl _ Z8)).trans h7
  have hx : Stab W1.heap.size (fun pre S' W => ∃ c, ∃ S, (∀ k, S' k ↔ S k ∨ k = w.heap.size + 1) ∧ ¬ S (w.heap.size + 1) ∧ ¬ S w.heap.size ∧ Inb S W ∧ Ix c pre S W ∧ W.heap[w.heap.size + 1]? = some (.loop (rec .done (some c))) ∧ W.heap[w.heap.size]? = some (.deferred (some []))) := by
   intro s S' T A B hj hi hk hd ht
   obtain ⟨c, hj⟩ := hj
   exact ⟨c, jI (hIx c) _ s S' T A B hj hi hk hd ht⟩
  refine (hseq W1 hk1 (w.heap.size + 1) _ _ (fun k => S0 k ∨ k = w.heap.size + 1) (hA _ (fun k hk => hk.imp id (fun e => Z8))) (jI hI (.loop (rec .ready none))) hx
   (fun k hk => hk.elim (fun h => by have := hS0 k h; omega) (fun e => Z8)) (fun A B ⟨S, e1, e2, e3, hin, hi, hl, hk⟩ _ hk' => ⟨S, e1, e2, e3, hin.mono hk'.size, hIO S A B hi hin hk', (hk'.block _ (Array.getElem?_eq_some_iff.1 hl).1 (fun h => by have := hO _ h; omega)).trans hl, (hk'.block _ (Array.getElem?_eq_some_iff.1 hk).1 (fun h => by have := hO _ h; omega)).trans hk⟩) ?_
   ⟨S0, fun k => Iff.rfl, fun h => by have := hS0 _ h; omega, fun h => by have := hS0 _ h; omega, hS0.mono hk1.size, hI1, hL1, hK1⟩).mono ?_
  ·-- one round
   rintro pre x S' W hxs ⟨S, e1, e2, e3, hin, hi, hl, hk⟩ hin'
   have hlt : w.heap.size + 1 < W.heap.size := (Array.getElem?_eq_some_iff.1 hl).1
   have hy := run_yield (P := P) (args := encs x) hl (by rw [hrec]; exact hps x)
   rw [hrec] at hy
   refine ⟨fn, _, assign, body, hy, roundIn_of_wpIn hfn (wpIn_mono (hassign _ pre x S W hxs hi hin Z8) ?_)⟩
   intro e a1 Wa hpost
   cases e with
   | normal =>
    obtain ⟨Sa, hfa, hina, hmid⟩ := hpost
    have hla : Wa.heap[w.heap.size + 1]? = some (.loop (rec .ready none)) := (hfa.1.block _ hlt e2).trans hl
    have hka : Wa.heap[w.heap.size]? = some (.deferred (some [])) := (hfa.1.block _ Z8 e3).trans hk
    have hSaL : ¬ Sa (w.heap.size + 1) := fun h => (hfa.2 _ h).elim e2 (fun h => Z8)
    have hSaD : ¬ Sa w.heap.size := fun h => (hfa.2 _ h).elim e3 (fun h => Z8)
    have hlta : w.heap.size + 1 < Wa.heap.size := (Array.getElem?_eq_some_iff.1 hla).1
    have hbr := run_beginRound (P := P) hla (by rw [hrec])
    obtain ⟨ob, hob⟩ : ∃ ob, ob = Obj.loop { rec .ready none with state := .busy } := ⟨_, rfl⟩
    rw [← hob] at hbr
    have hkp1 := keeps_putObj Wa (w.heap.size + 1) ob
    refine ⟨_, hbr, ?_⟩
    have hmid2 := hMid _ Sa _ _ _ hmid hina hkp1 (fun k hs e => hSaL (e ▸ hs)) (fun k e => Z8)
    have hl2 : (Wa.putObj (w.heap.size + 1) ob).heap[w.heap.size + 1]? = some (.loop { rec .ready none with state := .busy }) := by rw [← hob]; exact World.putObj_heap_same hlta
    have hk2 : (Wa.putObj (w.heap.size + 1) ob).heap[w.heap.size]? = some (.deferred (some [])) := (World.putObj_heap_other Z8).trans hka
    have hlt2 : w.heap.size + 1 < (Wa.putObj (w.heap.size + 1) ob).heap.size := (Array.getElem?_eq_some_iff.1 hl2).1
    refine wpIn_mono (hbody _ pre x a1 Sa _ hxs hmid2 (hina.mono hkp1.size) Z8 ⟨Z8, hSaL, _, hl2⟩) ?_
    generalize hWb : Wa.putObj (w.heap.size + 1) ob = Wb at *
    have fin : ∀ (jump : Option Code) (S2 : Nat → Prop) (W3 : World), Foot Sa S2 Wb W3 → Inb S2 W3 →
     (Instr.endRound (w.heap.size + 1) jump).run P W3 = .ok (.bool jump.isNone) (W3.putObj (w.heap.size + 1) (.loop (rec (if jump.isNone then .ready else .done) jump))) ∧
     (W3.putObj (w.heap.size + 1) (.loop (rec (if jump.isNone then .ready else .done) jump))).heap[w.heap.size + 1]? = some (.loop (rec (if jump.isNone then .ready else .done) jump)) ∧
     (W3.putObj (w.heap.size + 1) (.loop (rec (if jump.isNone then .ready else .done) jump))).heap[w.heap.size]? = some (.deferred (some [])) ∧
     ¬ S2 (w.heap.size + 1) ∧ ¬ S2 w.heap.size ∧ Foot S' (fun k => S2 k ∨ k = w.heap.size + 1) W (W3.putObj (w.heap.size + 1) (.loop (rec (if jump.isNone then .ready else .done) jump))) ∧
     Inb (fun k => S2 k ∨ k = w.heap.size + 1) (W3.putObj (w.heap.size + 1) (.loop (rec (if jump.isNone then .ready else .done) jump))) ∧
     Inb S2 (W3.putObj (w.heap.size + 1) (.loop (rec (if jump.isNone then .ready else .done) jump))) ∧
     (∀ (K : (Nat → Prop) → World → Prop), (∀ S (T : Nat → Prop) (W W' : World), K S W → Inb S W → Keeps T W W' → (∀ k, S k → ¬ T k) → (∀ k, T k → w.heap.size ≤ k) → K S W') → K S2 W3 → K S2 (W3.putObj (w.heap.size + 1) (.loop (rec (if jump.isNone then .ready else .done) jump)))) := by
     intro jump S2 W3 hf hin2
     have hl3 := (hf.1.block _ hlt2 hSaL).trans hl2
     have hk3 := (hf.1.block _ Z8 hSaD).trans hk2
     have hS2L : ¬ S2 (w.heap.size + 1) := fun h => (hf.2 _ h).elim hSaL (fun h => Z8)
     have hS2D : ¬ S2 w.heap.size := fun h => (hf.2 _ h).elim hSaD (fun h => Z8)
     have hr := run_endRound (P := P) jump hl3
     have hlt3 : w.heap.size + 1 < W3.heap.size := (Array.getElem?_eq_some_iff.1 hl3).1
     have hkp2 := keeps_putObj W3 (w.heap.size + 1) (.loop (rec (if jump.isNone then .ready else .done) jump))
     have hin3 := hin2.mono hkp2.size
     refine ⟨by rw [hrec] at hr ⊢; exact hr, World.putObj_heap_same hlt3, (World.putObj_heap_other Z8).trans hk3, hS2L, hS2D, ?_, ?_, hin3, ?_⟩
     ·have hs0 : ∀ k, S k → S' k := fun k h => (e1 k).2 (.inl h)
      have hsL : S' (w.heap.size + 1) := (e1 _).2 (.inr rfl)
      have t1 : Foot S' (fun k => Sa k ∨ k = w.heap.size + 1) W Wa := ⟨hfa.1.mono (fun k _ h => hs0 k h), fun k h => h.elim (fun h => (hfa.2 k h).imp (hs0 k) id) (fun e => .inl (e ▸ hsL))⟩
      have t2 : Foot (fun k => Sa k ∨ k = w.heap.size + 1) (fun k => Sa k ∨ k = w.heap.size + 1) Wa Wb := Foot.same (hkp1.mono (fun k _ e => .inr e))
      have t3 : Foot (fun k => Sa k ∨ k = w.heap.size + 1) (fun k => S2 k ∨ k = w.heap.size + 1) Wb W3 := ⟨hf.1.mono (fun k _ h => .inl h), fun k h => h.elim (fun h => (hf.2 k h).imp .inl id) (fun e => .inl (.inr e))⟩
      exact ((t1.trans t2).trans t3).trans (Foot.same (hkp2.mono (fun k _ e => .inr e)))
     ·intro k h
      rcases h with h | h
      ·exact hin3 k h
      ·have := hkp2.size; omega
     ·intro K hK hk
      exact hK S2 _ W3 _ hk hin2 hkp2 (fun k hs e => hS2L (e ▸ hs)) (fun k e => Z8)
    rintro e a3 W3 hp
    cases e with
    | normal =>
     obtain ⟨S2, hf, hin2, hi2⟩ := hp
     obtain ⟨g1, g2, g3, g4, g5, g6, g7, g8, g9⟩ := fin none S2 W3 hf hin2
     exact ⟨_, _, g1, _, g6, g7, .inl ⟨rfl, S2, fun k => Iff.rfl, g4, g5, g8, g9 (I (pre ++ [x])) (hI _) hi2, g2, g3⟩⟩
    | ret =>
     obtain ⟨S2, hf, hin2, hi2⟩ := hp
     obtain ⟨g1, g2, g3, g4, g5, g6, g7, g8, g9⟩ := fin (some .ret) S2 W3 hf hin2
     exact ⟨_, _, g1, _, g6, g7, .inr ⟨rfl, .ret, S2, fun k => Iff.rfl, g4, g5, g8, g9 (Ix .ret (pre ++ [x])) (hIx _ _) hi2, g2, g3⟩⟩
    | exit id =>
     obtain ⟨S2, hf, hin2, hi2⟩ := hp
     obtain ⟨g1, g2, g3, g4, g5, g6, g7, g8, g9⟩ := fin (some (.exit id)) S2 W3 hf hin2
     exact ⟨_, _, g1, _, g6, g7, .inr ⟨rfl, .exit id, S2, fun k => Iff.rfl, g4, g5, g8, g9 (Ix (.exit id) (pre ++ [x])) (hIx _ _) hi2, g2, g3⟩⟩
    | goto t =>
     obtain ⟨S2, hf, hin2, hi2⟩ := hp
     obtain ⟨g1, g2, g3, g4, g5, g6, g7, g8, g9⟩ := fin (some (.goto t)) S2 W3 hf hin2
     exact ⟨_, _, g1, _, g6, g7, .inr ⟨rfl, .goto t, S2, fun k => Iff.rfl, g4, g5, g8, g9 (Ix (.goto t) (pre ++ [x])) (hIx _ _) hi2, g2, g3⟩⟩
    | panic ch => exact hp.elim
    | outgrown => exact hp.elim
   | ret => exact hpost.elim
   | exit id => exact hpost.elim
   | goto t => exact hpost.elim
   | panic ch => exact hpost.elim
   | outgrown => exact hpost.elim
  ·-- behind the iterator
   rintro e W2 ⟨⟨v, rfl⟩, S', hf, hin', h⟩
   have foot : ∀ S (o : Obj), (∀ k, S' k ↔ S k ∨ k = w.heap.size + 1) → ¬ S (w.heap.size + 1) → Foot (fun k => S0 k ∨ O k) S w (W2.putObj (w.heap.size + 1) o) := by
    intro S o h1 h2
    refine ⟨?_, fun k hk => ?_⟩
    ·exact ((hk1.mono (fun k _ h => h.elim)).then hf.1 (fun i hi hs => hs.elim (fun h => .inl (h.resolve_right Z8)) .inr)).then (keeps_putObj W2 (w.heap.size + 1) o) (fun i hi e => Z8)
    ·rcases hf.2 k ((h1 k).2 (.inl hk)) with ((h | h) | h) | h
     ·exact .inl (.inl h)
     ·exact .inr Z8
     ·exact .inl (.inr h)
     ·exact .inr Z8
   rcases h with ⟨ys, hys, S, e1, e2, e3, hin, hi, hl, hk⟩ | ⟨pre, c, S, e1, e2, e3, hin, hi, hl, hk⟩
   ·exact ⟨none, _, ZAZ,
     hdone _ ys S _ hys (Nat.le_refl _) e3 (foot S _ e1 e2) (hin.mono (keeps_putObj W2 _ _).size) (hI _ S _ _ _ hi hin (keeps_putObj W2 _ _) (fun k hs e => e2 (e ▸ hs)) (fun k e => Z8)) ((World.putObj_heap_other Z8).trans hk)⟩
   ·exact ⟨some c, _, ZAZ,
     hstop _ c pre S _ (Nat.le_refl _) e3 (foot S _ e1 e2) (hin.mono (keeps_putObj W2 _ _).size) (hIx c _ S _ _ _ hi hin (keeps_putObj W2 _ _) (fun k hs e => e2 (e ▸ hs)) (fun k e => Z8)) ((World.putObj_heap_other Z8).trans hk)⟩
end
theorem left_pre {α : Type} {I : List α → (Nat → Prop) → World → Prop} {Ix : Code → List α → (Nat → Prop) → World → Prop} {xs ys : List α} {S : Nat → Prop} {W : World} (hp : ys <+: xs) : ∀ e a W', Left I Ix ys S W e a W' → Left I (fun c pre S W => Ix c pre S W ∧ pre <+: xs) ys S W e a W' := by
 intro e a W' h
 cases e with
 | normal => exact h
 | ret => obtain ⟨S', h1, h2, h3⟩ := h; exact ⟨S', h1, h2, h3, hp⟩
 | exit id => obtain ⟨S', h1, h2, h3⟩ := h; exact ⟨S', h1, h2, h3, hp⟩
 | goto t => obtain ⟨S', h1, h2, h3⟩ := h; exact ⟨S', h1, h2, h3, hp⟩
 | panic c => exact h
 | outgrown => exact h
theorem foot_no {S0 S' : Nat → Prop} {w W' : World} (h : Foot (fun k => S0 k ∨ False) S' w W') : Foot S0 S' w W' :=
 ⟨h.1.mono (fun _ _ h => h.resolve_right id), fun k hk => (h.2 k hk).imp (fun h => h.resolve_right id) id⟩
theorem GivesP.ofO {α : Type} {P : Program} {n gf : Nat} {lb : Array Value} {encs : α → Array Value} {xs : List α} {W : World} {A : (Nat → Prop) → Prop} {O : Nat → Prop} (h : GivesO P n gf lb encs xs W A O) : GivesP P n gf lb encs (fun pre x => ∃ rest, xs = pre ++ x :: rest) (fun ys => ys = xs) W A O := by
 intro l J Jx S hA hJ hJx hin hO hY h0
 refine (h l J Jx S hA hJ hJx hin hO (fun pre x rest S1 W1 e hj hi => hY pre x S1 W1 ⟨rest, e⟩ hj hi) h0).mono ?_
 rintro e W' ⟨hv, S', hf, hi, hr⟩
 refine ⟨hv, S', hf, hi, ?_⟩
 rcases hr with hr | ⟨pre, _, hr⟩
 ·exact .inl ⟨xs, rfl, hr⟩
 ·exact .inr ⟨pre, hr⟩
section
variable {P : Program} {n : Nat}
theorem wpIn_rangeH {α : Type} {g : Operand} {ps : Array Tmp} {assign body : Code} {Q : Exit → Act → World → Prop} {a : Act} {w : World}
 {gf : Nat} {lb : Array Value} (hg : a.eval g = .func (.func gf) #[] lb) (eg : ∀ args w, (callFunc gf args).run P w = .ok (.enter gf args) w)
 {encs : α → Array Value} {xs : List α} {A : (Nat → Prop) → Prop} (hseq : ∀ W1, Keeps (fun _ => False) w W1 → Gives P (n - 1) gf lb encs xs W1 A) (hps : ∀ x, (encs x).size = ps.size)
 (I : List α → (Nat → Prop) → World → Prop) (Ix : Code → List α → (Nat → Prop) → World → Prop) (hI : Stab w.heap.size I) (hIx : ∀ c, Stab w.heap.size (Ix c))
 (S0 : Nat → Prop) (hS0 : Inb S0 w) (h0 : I [] S0 w) (hA : ∀ S, (∀ k, S k → S0 k ∨ w.heap.size ≤ k) → A S)
 (Mid : List α × α × Act → (Nat → Prop) → World → Prop) (hMid : Stab w.heap.size Mid)
 (hassign : ∀ l pre x rest S W, xs = pre ++ x :: rest → I pre S W → Inb S W → w.heap.size < W.heap.size →
   assign.wpIn (Fence.wide.inRound l) (n - 1 - 1) P (Exit.then (fun a1 W1 => ∃ S1, Foot S S1 W W1 ∧ Inb S1 W1 ∧ Mid (pre, x, a1) S1 W1) (fun _ _ _ => False))
    { tmps := (ps.zip (encs x)).foldl (fun t (p, v) => t.setIfInBounds p v) a.tmps, defers := [] } W)
 (hbody : ∀ l pre x rest a1 S W, xs = pre ++ x :: rest → Mid (pre, x, a1) S W → Inb S W → w.heap.size < W.heap.size → (w.heap.size ≤ l ∧ ¬ S l ∧ ∃ r, W.heap[l]? = some (.loop r)) → body.wpIn (Fence.wide.inRound l) (n - 1 - 1) P (Left I Ix (pre ++ [x]) S W) a1 W)
 (hdone : ∀ (D : Nat) S' W', w.heap.size ≤ D → ¬ S' D → Foot S0 S' w W' → Inb S' W' → I xs S' W' → W'.heap[D]? = some (.deferred (some [])) →
   Q .normal { a with defers := { target := .collected D, args := #[] } :: a.defers } W')
 (hstop : ∀ (D : Nat) (c : Code) pre S' W', w.heap.size ≤ D → ¬ S' D → Foot S0 S' w W' → Inb S' W' → pre <+: xs → Ix c pre S' W' → W'.heap[D]? = some (.deferred (some [])) →
   c.wpIn Fence.wide n P Q { a with defers := { target := .collected D, args := #[] } :: a.defers } W') :
 (Code.rangeFunc g ps assign body).wpIn Fence.wide n P Q a w :=
 wpIn_rangeP (O := fun _ => False) hg eg (fun _ hk => hk.elim) (Nx := fun pre x => ∃ rest, xs = pre ++ x :: rest) (Fin := fun ys => ys = xs) (fun W1 hk => GivesP.of (hseq W1 hk)) hps I (fun c pre S W => Ix c pre S W ∧ pre <+: xs) hI
  (fun c s S T W W' h hin hk hd ht => ⟨hIx c s S T W W' h.1 hin hk hd ht, h.2⟩) S0 hS0 h0 (fun S W W' h hin hk => hI [] S _ W W' h hin hk (fun _ _ h => h) (fun _ h => h.elim)) hA Mid hMid
  (fun l pre x S W ⟨rest, e⟩ => hassign l pre x rest S W e)
  (fun l pre x a1 S W ⟨rest, e⟩ h1 h2 h3 h4 => wpIn_mono (hbody l pre x rest a1 S W e h1 h2 h3 h4) (left_pre ⟨rest, by rw [e]; simp⟩))
  (fun D ys S' W' e h1 h2 h3 h4 h5 h6 => hdone D S' W' h1 h2 (foot_no h3) h4 (e ▸ h5) h6)
  (fun D c pre S' W' h1 h2 h3 h4 h5 h6 => hstop D c pre S' W' h1 h2 (foot_no h3) h4 h5.2 h5.1 h6)
theorem wpIn_range {α : Type} {g : Operand} {ps : Array Tmp} {assign body : Code} {Q : Exit → Act → World → Prop} {a : Act} {w : World}
 {gf : Nat} {lb : Array Value} (hg : a.eval g = .func (.func gf) #[] lb) (eg : ∀ args w, (callFunc gf args).run P w = .ok (.enter gf args) w)
 {encs : α → Array Value} {xs : List α} {A : (Nat → Prop) → Prop} (hseq : ∀ W1, Keeps (fun _ => False) w W1 → Gives P (n - 1) gf lb encs xs W1 A) (hps : ∀ x, (encs x).size = ps.size)
 (I : List α → (Nat → Prop) → World → Prop) (Ix : Code → List α → (Nat → Prop) → World → Prop) (hI : Stab w.heap.size I) (hIx : ∀ c, Stab w.heap.size (Ix c))
 (S0 : Nat → Prop) (hS0 : Inb S0 w) (h0 : I [] S0 w) (hA : ∀ S, (∀ k, S k → S0 k ∨ w.heap.size ≤ k) → A S)
 (Mid : List α × α × Act → (Nat → Prop) → World → Prop) (hMid : Stab w.heap.size Mid)
 (hassign : ∀ l pre x rest S W, xs = pre ++ x :: rest → I pre S W → Inb S W → w.heap.size < W.heap.size →
   assign.wpIn (Fence.wide.inRound l) (n - 1 - 1) P (Exit.then (fun a1 W1 => ∃ S1, Foot S S1 W W1 ∧ Inb S1 W1 ∧ Mid (pre, x, a1) S1 W1) (fun _ _ _ => False))
    { tmps := (ps.zip (encs x)).foldl (fun t (p, v) => t.setIfInBounds p v) a.tmps, defers := [] } W)
 (hbody : ∀ l pre x rest a1 S W, xs = pre ++ x :: rest → Mid (pre, x, a1) S W → Inb S W → w.heap.size < W.heap.size → body.wpIn (Fence.wide.inRound l) (n - 1 - 1) P (Left I Ix (pre ++ [x]) S W) a1 W)
 (hdone : ∀ (D : Nat) S' W', w.heap.size ≤ D → ¬ S' D → Foot S0 S' w W' → Inb S' W' → I xs S' W' → W'.heap[D]? = some (.deferred (some [])) →
   Q .normal { a with defers := { target := .collected D, args := #[] } :: a.defers } W')
 (hstop : ∀ (D : Nat) (c : Code) pre S' W', w.heap.size ≤ D → ¬ S' D → Foot S0 S' w W' → Inb S' W' → pre <+: xs → Ix c pre S' W' → W'.heap[D]? = some (.deferred (some [])) →
   c.wpIn Fence.wide n P Q { a with defers := { target := .collected D, args := #[] } :: a.defers } W') :
 (Code.rangeFunc g ps assign body).wpIn Fence.wide n P Q a w :=
 wpIn_rangeH hg eg hseq hps I Ix hI hIx S0 hS0 h0 hA Mid hMid hassign (fun l pre x rest a1 S W e h1 h2 h3 _ => hbody l pre x rest a1 S W e h1 h2 h3) hdone hstop
theorem wpIn_rangeO {α : Type} {g : Operand} {ps : Array Tmp} {assign body : Code} {Q : Exit → Act → World → Prop} {a : Act} {w : World}
 {gf : Nat} {lb : Array Value} (hg : a.eval g = .func (.func gf) #[] lb) (eg : ∀ args w, (callFunc gf args).run P w = .ok (.enter gf args) w)
 {encs : α → Array Value} {xs : List α} {A : (Nat → Prop) → Prop} {O : Nat → Prop} (hO : ∀ k, O k → k < w.heap.size) (hseq : ∀ W1, Keeps (fun _ => False) w W1 → GivesO P (n - 1) gf lb encs xs W1 A O) (hps : ∀ x, (encs x).size = ps.size)
 (I : List α → (Nat → Prop) → World → Prop) (Ix : Code → List α → (Nat → Prop) → World → Prop) (hI : Stab w.heap.size I) (hIx : ∀ c, Stab w.heap.size (Ix c))
 (S0 : Nat → Prop) (hS0 : Inb S0 w) (h0 : I [] S0 w) (hIO : ∀ S W W', I [] S W → Inb S W → Keeps O W W' → I [] S W') (hA : ∀ S, (∀ k, S k → S0 k ∨ w.heap.size ≤ k) → A S)
 (Mid : List α × α × Act → (Nat → Prop) → World → Prop) (hMid : Stab w.heap.size Mid)
 (hassign : ∀ l pre x rest S W, xs = pre ++ x :: rest → I pre S W → Inb S W → w.heap.size < W.heap.size →
   assign.wpIn (Fence.wide.inRound l) (n - 1 - 1) P (Exit.then (fun a1 W1 => ∃ S1, Foot S S1 W W1 ∧ Inb S1 W1 ∧ Mid (pre, x, a1) S1 W1) (fun _ _ _ => False))
    { tmps := (ps.zip (encs x)).foldl (fun t (p, v) => t.setIfInBounds p v) a.tmps, defers := [] } W)
 (hbody : ∀ l pre x rest a1 S W, xs = pre ++ x :: rest → Mid (pre, x, a1) S W → Inb S W → w.heap.size < W.heap.size → (w.heap.size ≤ l ∧ ¬ S l ∧ ∃ r, W.heap[l]? = some (.loop r)) → body.wpIn (Fence.wide.inRound l) (n - 1 - 1) P (Left I Ix (pre ++ [x]) S W) a1 W)
 (hdone : ∀ (D : Nat) S' W', w.heap.size ≤ D → ¬ S' D → Foot (fun k => S0 k ∨ O k) S' w W' → Inb S' W' → I xs S' W' → W'.heap[D]? = some (.deferred (some [])) →
   Q .normal { a with defers := { target := .collected D, args := #[] } :: a.defers } W')
 (hstop : ∀ (D : Nat) (c : Code) pre S' W', w.heap.size ≤ D → ¬ S' D → Foot (fun k => S0 k ∨ O k) S' w W' → Inb S' W' → pre <+: xs → Ix c pre S' W' → W'.heap[D]? = some (.deferred (some [])) →
   c.wpIn Fence.wide n P Q { a with defers := { target := .collected D, args := #[] } :: a.defers } W') :
 (Code.rangeFunc g ps assign body).wpIn Fence.wide n P Q a w :=
 wpIn_rangeP hg eg hO (Nx := fun pre x => ∃ rest, xs = pre ++ x :: rest) (Fin := fun ys => ys = xs) (fun W1 hk => GivesP.ofO (hseq W1 hk)) hps I (fun c pre S W => Ix c pre S W ∧ pre <+: xs) hI
  (fun c s S T W W' h hin hk hd ht => ⟨hIx c s S T W W' h.1 hin hk hd ht, h.2⟩) S0 hS0 h0 hIO hA Mid hMid
  (fun l pre x S W ⟨rest, e⟩ => hassign l pre x rest S W e)
  (fun l pre x a1 S W ⟨rest, e⟩ h1 h2 h3 h4 => wpIn_mono (hbody l pre x rest a1 S W e h1 h2 h3 h4) (left_pre ⟨rest, by rw [e]; simp⟩))
  (fun D ys S' W' e h1 h2 h3 h4 h5 h6 => hdone D S' W' h1 h2 h3 h4 (e ▸ h5) h6)
  (fun D c pre S' W' h1 h2 h3 h4 h5 h6 => hstop D c pre S' W' h1 h2 h3 h4 h5.2 h5.1 h6)
theorem wpIn_rangeN {l₀ : Nat} {r₀ : Loop} {α : Type} {g : Operand} {ps : Array Tmp} {assign body : Code} {Q : Exit → Act → World → Prop} {a : Act} {w : World} (hl₀ : w.heap[l₀]? = some (.loop r₀))
 {gf : Nat} {lb : Array Value} (hg : a.eval g = .func (.func gf) #[] lb) (eg : ∀ args w, (callFunc gf args).run P w = .ok (.enter gf args) w)
 {encs : α → Array Value} {xs : List α} {A : (Nat → Prop) → Prop} (hseq : ∀ W1, Keeps (fun _ => False) w W1 → Gives P (n - 1) gf lb encs xs W1 A) (hps : ∀ x, (encs x).size = ps.size)
 (I : List α → (Nat → Prop) → World → Prop) (Ix : Code → List α → (Nat → Prop) → World → Prop) (hI : Stab w.heap.size I) (hIx : ∀ c, Stab w.heap.size (Ix c))
 (S0 : Nat → Prop) (hS0 : Inb S0 w) (h0 : I [] S0 w) (hA : ∀ S, (∀ k, S k → S0 k ∨ w.heap.size ≤ k) → A S)
 (Mid : List α × α × Act → (Nat → Prop) → World → Prop) (hMid : Stab w.heap.size Mid)
 (hassign : ∀ l pre x rest S W, xs = pre ++ x :: rest → I pre S W → Inb S W → w.heap.size < W.heap.size →
   assign.wpIn (Fence.wide.inRound l) (n - 1 - 1) P (Exit.then (fun a1 W1 => ∃ S1, Foot S S1 W W1 ∧ Inb S1 W1 ∧ Mid (pre, x, a1) S1 W1) (fun _ _ _ => False))
    { tmps := (ps.zip (encs x)).foldl (fun t (p, v) => t.setIfInBounds p v) a.tmps, defers := [] } W)
 (hbody : ∀ l pre x rest a1 S W, xs = pre ++ x :: rest → Mid (pre, x, a1) S W → Inb S W → w.heap.size < W.heap.size → (w.heap.size ≤ l ∧ ¬ S l ∧ ∃ r, W.heap[l]? = some (.loop r)) → body.wpIn (Fence.wide.inRound l) (n - 1 - 1) P (Left I Ix (pre ++ [x]) S W) a1 W)
 (hdone : ∀ S' W', Foot S0 S' w W' → Inb S' W' → I xs S' W' → Q .normal a W')
 (hstop : ∀ (c : Code) pre S' W', Foot S0 S' w W' → Inb S' W' → pre <+: xs → Ix c pre S' W' → c.wpIn (Fence.wide.inRound l₀) n P Q a W') :
 (Code.rangeFunc g ps assign body).wpIn (Fence.wide.inRound l₀) n P Q a w := by
 refine wpIn_rangeFunc ?_
 intro fn hfn
 obtain ⟨rec, hrec⟩ : ∃ rec : LoopState → Option Code → Loop, rec = fun st pe => { state := st, pending := pe, fn, tmps := a.tmps, params := ps, assign, body, defers := r₀.defers } := ⟨_, rfl⟩
 obtain ⟨W1, hW1⟩ : ∃ W1, w.alloc (.loop (rec .ready none)) = W1 := ⟨_, rfl⟩
 have hz1 : W1.heap.size = w.heap.size + 1 := by rw [← hW1]; simp
 have hL1 : W1.heap[w.heap.size]? = some (.loop (rec .ready none)) := by
  rw [← hW1]; exact World.alloc_heap_new w _
 have hk1 : Keeps (fun _ => False) w W1 := by rw [← hW1]; exact (Keeps.refl _ w).alloc _
 have hI1 : I [] S0 W1 := hI [] S0 _ w W1 h0 hS0 hk1 (fun _ _ h => h) (fun _ h => h.elim)
 refine ⟨w.heap.size, [], W1, { target := .fn (.func gf) lb, args := #[.func (.yield (w.heap.size)) #[] #[]] }, W1, gf,
  #[.func (.yield (w.heap.size)) #[] #[]] ++ lb, W1, ?_, ?_, ?_, ?_, fun h => by simp [Fence.wide] at h, ?_⟩
 ·rw [← hW1, hrec]; exact run_enterLoop_inner hl₀ _ _ _ _ _
 ·simp only [resolve, hg]
  simp [go_sem]
 ·intro f' _; trivial
 ·simp [invoke, go_sem, eg]
 ·-- the two facts of book-keeping ride beside the invariant
  have jI : ∀ {β : Type} {K : β → (Nat → Prop) → World → Prop}, Stab w.heap.size K → ∀ (o : Obj), Stab W1.heap.size
   (fun s S' W => ∃ S, (∀ k, S' k ↔ S k ∨ k = w.heap.size) ∧ ¬ S w.heap.size ∧ Inb S W ∧ K s S W ∧ W.heap[w.heap.size]? = some o ) := by
   intro β K hK o s S' T A B hj hi hk hd ht
   obtain ⟨S, h1, h2, h4, h5, h6⟩ := hj
   have hTl : ∀ k, k < W1.heap.size → ¬ T k := fun k hk' hT => by have := ht k hT; omega
   refine ⟨S, h1, h2, h4.mono hk.size, hK s S T A B h5 h4 hk (fun k hs => hd k ((h1 k).2 (.inl hs))) (fun k hT => by have := ht k hT; omega), ?_⟩
   ·exact (hk.block _ (Array.getElem?_eq_some_iff.1 h6).1 (hTl _ Z8)).trans h6
  have hx : Stab W1.heap.size (fun pre S' W => ∃ c, ∃ S, (∀ k, S' k ↔ S k ∨ k = w.heap.size) ∧ ¬ S w.heap.size ∧ Inb S W ∧ Ix c pre S W ∧ W.heap[w.heap.size]? = some (.loop (rec .done (some c))) ) := by
   intro s S' T A B hj hi hk hd ht
   obtain ⟨c, hj⟩ := hj
   exact ⟨c, jI (hIx c) _ s S' T A B hj hi hk hd ht⟩
  refine (hseq W1 hk1 (w.heap.size) _ _ (fun k => S0 k ∨ k = w.heap.size) (hA _ (fun k hk => hk.imp id (fun e => Z8))) (jI hI (.loop (rec .ready none))) hx
   (fun k hk => hk.elim (fun h => by have := hS0 k h; omega) (fun e => Z8)) ?_
   ⟨S0, fun k => Iff.rfl, fun h => by have := hS0 _ h; omega, hS0.mono hk1.size, hI1, hL1⟩).mono ?_
  ·-- one round
   rintro pre x rest S' W hxs ⟨S, e1, e2, hin, hi, hl⟩ hin'
   have hlt : w.heap.size < W.heap.size := (Array.getElem?_eq_some_iff.1 hl).1
   have hy := run_yield (P := P) (args := encs x) hl (by rw [hrec]; exact hps x)
   rw [hrec] at hy
   refine ⟨fn, _, assign, body, hy, roundIn_of_wpIn hfn (wpIn_mono (hassign _ pre x rest S W hxs hi hin Z8) ?_)⟩
   intro e a1 Wa hpost
   cases e with
   | normal =>
    obtain ⟨Sa, hfa, hina, hmid⟩ := hpost
    have hla : Wa.heap[w.heap.size]? = some (.loop (rec .ready none)) := (hfa.1.block _ hlt e2).trans hl
    have hSaL : ¬ Sa (w.heap.size) := fun h => (hfa.2 _ h).elim e2 (fun h => Z8)
    have hlta : w.heap.size < Wa.heap.size := (Array.getElem?_eq_some_iff.1 hla).1
    have hbr := run_beginRound (P := P) hla (by rw [hrec])
    obtain ⟨ob, hob⟩ : ∃ ob, ob = Obj.loop { rec .ready none with state := .busy } := ⟨_, rfl⟩
    rw [← hob] at hbr
    have hkp1 := keeps_putObj Wa (w.heap.size) ob
    refine ⟨_, hbr, ?_⟩
    have hmid2 := hMid _ Sa _ _ _ hmid hina hkp1 (fun k hs e => hSaL (e ▸ hs)) (fun k e => Z8)
    have hl2 : (Wa.putObj (w.heap.size) ob).heap[w.heap.size]? = some (.loop { rec .ready none with state := .busy }) := by rw [← hob]; exact World.putObj_heap_same hlta
    have hlt2 : w.heap.size < (Wa.putObj (w.heap.size) ob).heap.size := (Array.getElem?_eq_some_iff.1 hl2).1
    refine wpIn_mono (hbody _ pre x rest a1 Sa _ hxs hmid2 (hina.mono hkp1.size) Z8 ⟨Z8, hSaL, _, hl2⟩) ?_
    generalize hWb : Wa.putObj (w.heap.size) ob = Wb at *
    have fin : ∀ (jump : Option Code) (S2 : Nat → Prop) (W3 : World), Foot Sa S2 Wb W3 → Inb S2 W3 →
     (Instr.endRound (w.heap.size) jump).run P W3 = .ok (.bool jump.isNone) (W3.putObj (w.heap.size) (.loop (rec (if jump.isNone then .ready else .done) jump))) ∧
     (W3.putObj (w.heap.size) (.loop (rec (if jump.isNone then .ready else .done) jump))).heap[w.heap.size]? = some (.loop (rec (if jump.isNone then .ready else .done) jump)) ∧
     ¬ S2 w.heap.size ∧ Foot S' (fun k => S2 k ∨ k = w.heap.size) W (W3.putObj (w.heap.size) (.loop (rec (if jump.isNone then .ready else .done) jump))) ∧
     Inb (fun k => S2 k ∨ k = w.heap.size) (W3.putObj (w.heap.size) (.loop (rec (if jump.isNone then .ready else .done) jump))) ∧
     Inb S2 (W3.putObj (w.heap.size) (.loop (rec (if jump.isNone then .ready else .done) jump))) ∧
     (∀ (K : (Nat → Prop) → World → Prop), (∀ S (T : Nat → Prop) (W W' : World), K S W → Inb S W → Keeps T W W' → (∀ k, S k → ¬ T k) → (∀ k, T k → w.heap.size ≤ k) → K S W') → K S2 W3 → K S2 (W3.putObj (w.heap.size) (.loop (rec (if jump.isNone then .ready else .done) jump)))) := by
     intro jump S2 W3 hf hin2
     have hl3 := (hf.1.block _ hlt2 hSaL).trans hl2
     have hS2L : ¬ S2 (w.heap.size) := fun h => (hf.2 _ h).elim hSaL (fun h => Z8)
     have hr := run_endRound (P := P) jump hl3
     have hlt3 : w.heap.size < W3.heap.size := (Array.getElem?_eq_some_iff.1 hl3).1
     have hkp2 := keeps_putObj W3 (w.heap.size) (.loop (rec (if jump.isNone then .ready else .done) jump))
     have hin3 := hin2.mono hkp2.size
     refine ⟨by rw [hrec] at hr ⊢; exact hr, World.putObj_heap_same hlt3, hS2L, ?_, ?_, hin3, ?_⟩
     ·have hs0 : ∀ k, S k → S' k := fun k h => (e1 k).2 (.inl h)
      have hsL : S' (w.heap.size) := (e1 _).2 (.inr rfl)
      have t1 : Foot S' (fun k => Sa k ∨ k = w.heap.size) W Wa := ⟨hfa.1.mono (fun k _ h => hs0 k h), fun k h => h.elim (fun h => (hfa.2 k h).imp (hs0 k) id) (fun e => .inl (e ▸ hsL))⟩
      have t2 : Foot (fun k => Sa k ∨ k = w.heap.size) (fun k => Sa k ∨ k = w.heap.size) Wa Wb := Foot.same (hkp1.mono (fun k _ e => .inr e))
      have t3 : Foot (fun k => Sa k ∨ k = w.heap.size) (fun k => S2 k ∨ k = w.heap.size) Wb W3 := ⟨hf.1.mono (fun k _ h => .inl h), fun k h => h.elim (fun h => (hf.2 k h).imp .inl id) (fun e => .inl (.inr e))⟩
      exact ((t1.trans t2).trans t3).trans (Foot.same (hkp2.mono (fun k _ e => .inr e)))
     ·intro k h
      rcases h with h | h
      ·exact hin3 k h
      ·have := hkp2.size; omega
     ·intro K hK hk
      exact hK S2 _ W3 _ hk hin2 hkp2 (fun k hs e => hS2L (e ▸ hs)) (fun k e => Z8)
    rintro e a3 W3 hp
    cases e with
    | normal =>
     obtain ⟨S2, hf, hin2, hi2⟩ := hp
     obtain ⟨g1, g2, g4, g6, g7, g8, g9⟩ := fin none S2 W3 hf hin2
     exact ⟨_, _, g1, _, g6, g7, .inl ⟨rfl, S2, fun k => Iff.rfl, g4, g8, g9 (I (pre ++ [x])) (hI _) hi2, g2⟩⟩
    | ret =>
     obtain ⟨S2, hf, hin2, hi2⟩ := hp
     obtain ⟨g1, g2, g4, g6, g7, g8, g9⟩ := fin (some .ret) S2 W3 hf hin2
     exact ⟨_, _, g1, _, g6, g7, .inr ⟨rfl, .ret, S2, fun k => Iff.rfl, g4, g8, g9 (Ix .ret (pre ++ [x])) (hIx _ _) hi2, g2⟩⟩
    | exit id =>
     obtain ⟨S2, hf, hin2, hi2⟩ := hp
     obtain ⟨g1, g2, g4, g6, g7, g8, g9⟩ := fin (some (.exit id)) S2 W3 hf hin2
     exact ⟨_, _, g1, _, g6, g7, .inr ⟨rfl, .exit id, S2, fun k => Iff.rfl, g4, g8, g9 (Ix (.exit id) (pre ++ [x])) (hIx _ _) hi2, g2⟩⟩
    | goto t =>
     obtain ⟨S2, hf, hin2, hi2⟩ := hp
     obtain ⟨g1, g2, g4, g6, g7, g8, g9⟩ := fin (some (.goto t)) S2 W3 hf hin2
     exact ⟨_, _, g1, _, g6, g7, .inr ⟨rfl, .goto t, S2, fun k => Iff.rfl, g4, g8, g9 (Ix (.goto t) (pre ++ [x])) (hIx _ _) hi2, g2⟩⟩
    | panic ch => exact hp.elim
    | outgrown => exact hp.elim
   | ret => exact hpost.elim
   | exit id => exact hpost.elim
   | goto t => exact hpost.elim
   | panic ch => exact hpost.elim
   | outgrown => exact hpost.elim
  ·-- behind the iterator
   rintro e W2 ⟨⟨v, rfl⟩, S', hf, hin', h⟩
   have foot : ∀ S (o : Obj), (∀ k, S' k ↔ S k ∨ k = w.heap.size) → ¬ S (w.heap.size) → Foot S0 S w (W2.putObj (w.heap.size) o) := by
    intro S o h1 h2
    refine ⟨?_, fun k hk => ?_⟩
    ·exact ((hk1.mono (fun k _ h => h.elim)).then hf.1 (fun i hi hs => hs.resolve_right Z8)).then (keeps_putObj W2 (w.heap.size) o) (fun i hi e => Z8)
    ·rcases hf.2 k ((h1 k).2 (.inl hk)) with (h | h) | h
     ·exact .inl h
     ·exact .inr Z8
     ·exact .inr Z8
   rcases h with ⟨S, e1, e2, hin, hi, hl⟩ | ⟨pre, hpre, c, S, e1, e2, hin, hi, hl⟩
   ·exact ⟨none, _, ZAZ,
     hdone S _ (foot S _ e1 e2) (hin.mono (keeps_putObj W2 _ _).size) (hI _ S _ _ _ hi hin (keeps_putObj W2 _ _) (fun k hs e => e2 (e ▸ hs)) (fun k e => Z8))⟩
   ·exact ⟨some c, _, ZAZ,
     hstop c pre S _ (foot S _ e1 e2) (hin.mono (keeps_putObj W2 _ _).size) hpre (hIx c _ S _ _ _ hi hin (keeps_putObj W2 _ _) (fun k hs e => e2 (e ▸ hs)) (fun k e => Z8))⟩
end
end Mem
open Go.RowKit
namespace Tree
open Mem
def U32s (w : World) (v : Value) (xs : List Nat) : Prop :=
 ∃ a c, v = .slice a xs.length c ∧ ∀ i x, xs[i]? = some x → ∃ b off, a = some ⟨b, off, none⟩ ∧ w.cell? ⟨b, off + i, none⟩ = some (.int .u32 ((x : Nat) : Int))
def rowOf (v : Value) (k : Nat) : Prop := ∃ a n c, v = .slice (some a) n c ∧ a.block = k
theorem values1_gives (n B : Nat) (v : Value) (xs : List Nat) (W : World) (hl : xs.length ≤ 9223372036854775807) (hB : W.cell? ⟨B, 0, none⟩ = some v) (hv : U32s W v xs) :
 Gives Tryz.prog n 92 #[.pointer (some ⟨B, 0, none⟩)] (fun x : Nat => #[.int .u32 (x : Int)]) xs W (fun S => ∀ k, S k → ¬ rowOf v k) := by
 intro l J Jx S hA hJ hJx hin hY h0
 obtain ⟨a, c, rfl, hx⟩ := hv
 refine callsIn_of_wp Tryz.func92 rfl trivial ?_ rfl
 simp only [Tryz.ntmps92, List.size_toArray, List.length_cons, List.length_nil, Nat.reduceAdd, Nat.reduceSub, Array.replicate_succ, Array.replicate_zero, List.push_toArray, List.append_toArray, List.nil_append, List.cons_append]
 have HY := Lib.hid hY; clear hY
 have HX := Lib.hid hx; clear hx
 gi_wp2
 gi_loopw [7] (fun p wr => ∃ (i : Nat) (Sk : Nat → Prop), i ≤ xs.length ∧ p = .int .i64 (i : Int) ∧ J (xs.take i) Sk wr ∧ Inb Sk wr ∧ Foot S Sk W wr) (fun p _ => xs.length - (intOf p).toNat)
 case atStart => exact ⟨0, S, Nat.zero_le _, rfl, by simpa using h0, hin, Foot.refl _ _⟩
 case round =>
  obtain ⟨i, Sk, hi, rfl, hj, hink, hf⟩ := hrel
  by_cases hlt : i < xs.length
  ·obtain ⟨b, off, rfl, hc⟩ := HX.out i xs[i] (List.getElem?_eq_getElem hlt)
   have hns : ¬ S b := fun h => hA b h ⟨_, _, _, rfl, rfl⟩
   have hc' : wr.cell? ⟨b, off + i, none⟩ = some (.int .u32 ((xs[i] : Nat) : Int)) := hf.1.cell (p := ⟨b, off + i, none⟩) hc hns
   have hsplit : xs = xs.take i ++ xs[i] :: xs.drop (i + 1) := by rw [← List.drop_eq_getElem_cons hlt, List.take_append_drop]
   have htk : xs.take (i + 1) = xs.take i ++ [xs[i]] := (List.take_append_getElem hlt).symm
   obtain ⟨fn, tmps, assign, body, hy, hR⟩ := HY.out (xs.take i) xs[i] _ Sk wr hsplit hj hink
   have HT := Lib.hid htk; clear htk hsplit
   have HJ := Lib.hid hj; clear hj h0
   gi_wp2
   refine ⟨fun h => by simp [Fence.wide] at h, hR.mono ?_⟩
   rintro e W3 ⟨S3, hf3, hin3, (⟨rfl, hj3⟩ | ⟨rfl, hj3⟩)⟩
   ·gi_wp2
    go_roundw
    case rel => exact ⟨i + 1, S3, Z8, ZAl, by rw [HT.out]; exact hj3, hin3, hf.trans hf3⟩
    case measure => simp [intOf]; omega
   ·gi_wp2
    refine bodyPost_ret (results_none rfl _ _ _) rfl ?_
    exact ⟨⟨_, rfl⟩, S3, hf.trans hf3, hin3, .inr ⟨xs.take i ++ [xs[i]], ⟨xs.drop (i + 1), ZA7⟩, hj3⟩⟩
  ·obtain rfl : i = xs.length := by omega
   gi_wp2
   go_end0
   exact ⟨⟨_, rfl⟩, Sk, hf, hink, .inl (by simpa using hj)⟩
end Tree
open Go.RowKit
namespace Mem
theorem cells_set {b : Nat} {cs : List Value} (I : Nat → Prop) {W : World} {c j : Nat} {v : Value} (h : ∀ i, I i → W.cell? ⟨b, i, none⟩ = cs[i]?) (hj : b ≠ c ∨ ¬ I j) : ∀ i, I i → (W.setCell ⟨c, j, none⟩ v).cell? ⟨b, i, none⟩ = cs[i]? := fun i hi =>
 (World.cell?_setCell_other _ _ _ _ (by intro e; simp only [Addr.mk.injEq] at e; rcases hj with hj | hj; exact hj e.1.symm; exact hj (e.2.1 ▸ hi))).trans (h i hi)
theorem cells_drew {b : Nat} {cs : List Value} (I : Nat → Prop) {W : World} (h : ∀ i, I i → W.cell? ⟨b, i, none⟩ = cs[i]?) : ∀ i, I i → W.drew.cell? ⟨b, i, none⟩ = cs[i]? := h
theorem cells_blk {b : Nat} {t : TypeId} {cs : List Value} (I : Nat → Prop) {W : World} (h : Blk W b t cs) : ∀ i, I i → W.cell? ⟨b, i, none⟩ = cs[i]? := fun i _ => h.cell i
theorem all_drew {b : Nat} {cs : List Value} {W : World} (h : ∀ i : Nat, W.cell? ⟨b, i, none⟩ = cs[i]?) : ∀ i : Nat, W.drew.cell? ⟨b, i, none⟩ = cs[i]? := h
end Mem
open Go.RowKit
namespace Mem
theorem oper_append_own {F : Fence} {nF : Nat} {P : Program} {Q : Exit → Act → World → Prop} {K : Act → World → Prop} {w : World} {o : Oper} {a : Act} (s x : Operand) (t : TypeId)
 (ho : o.op = .call { callee := .builtin .append, args := #[s, x], argTypes := #[t, t] })
 (base : Nat) (e : TypeId) (i : TypeInfo) (z : Value) (size bytes : Nat) (ht : P.underlying t = some (.slice e)) (hi : P.info? e = some i) (hz : i.zero = some z)
 (hsize : i.size = size) (hby : i.bytes = bytes) (hzs : z.cells.size = size) (hsz : 0 < size)
 (v : Value) (n : Nat) (xs : List Value) (hs : a.eval s = v) (hown : w.ownsRow base e size v n xs)
 (ad : Addr) (m c : Nat) (news : List Value) (hx : a.eval x = .slice (some ad) m c) (hl : news.length = m * size) (hnews : ∀ j u, news[j]? = some u → w.cell? (ad.add j) = some u) (h1 : ∀ u ∈ news, u.oneCell' = true)
 (h63 : n + m ≤ maxLen) (hbytes : (n + m) * bytes ≤ 140737488355328) (hbase : base ≤ w.heap.size)
 (h : ∀ v' w', w'.ownsRow base e size v' (n + m) (xs ++ news) → w.grownBy w' v.ownBlock → (v'.ownBlock = v.ownBlock ∨ v'.ownBlock = some w.heap.size) → K (a.put o.dst v') w') :
 o.wpIn F nF P a w K Q := by
 obtain ⟨v', w', hr, h2, h3, h4, h5⟩ := run_append_own_at (P := P) w base t o.type e i z size bytes ht hi hz hsize hby hzs hsz v n xs hown ad m c news hl hnews h1 h63 hbytes hbase
 unfold Oper.wpIn
 refine ⟨by simp [Oper.about, ho, resolve, Target.leads, Sem.run_pure], ?_⟩
 rw [Oper.semAt_plain F _ _ (by rw [ho]; intro c hc'; cases hc')]
 simp [execOp, ho, resolve, invoke, builtin, hs, hx, hr, Result.andThen]
 exact h v' w' h2 h3 h5
def RowI (te ts : TypeId) (size : Nat) (w : World) (B5 n : Nat) (xs : List Value) (S : Nat → Prop) (W : World) : Prop :=
 ∃ a c, Blk W B5 ts [.slice a n c] ∧ W.ownsRow w.heap.size te size (.slice a n c) n xs ∧ Below w.heap.size w W ∧ (∀ k, S k ↔ k = B5 ∨ (Value.slice a n c).ownBlock = some k)
theorem RowI.keeps {te ts : TypeId} {size : Nat} {w : World} {B5 n : Nat} {xs : List Value} {S T : Nat → Prop} {W W' : World} (h : RowI te ts size w B5 n xs S W) (hk : Keeps T W W') (hd : ∀ k, S k → ¬ T k) (ht : ∀ k, T k → w.heap.size ≤ k) : RowI te ts size w B5 n xs S W' := by
 obtain ⟨a, c, h1, h2, h3, h4⟩ := h
 refine ⟨a, c, h1.keeps hk (hd _ ((h4 _).2 (.inl rfl))), owns_keeps h2 hk (fun k hk' => hd _ ((h4 _).2 (.inr hk'))), h3.trans ⟨hk.os, hk.tape, hk.output, hk.size, fun k hk' => ?_⟩, h4⟩
 exact hk.block k (by have := h3.size; omega) (fun h => by have := ht _ h; omega)
theorem RowI.stab {α : Type} {te ts : TypeId} {size : Nat} {w : World} {B5 b : Nat} (n : List α → Nat) (xs : List α → List Value) (hb : w.heap.size ≤ b) : Stab b (fun pre S W => RowI te ts size w B5 (n pre) (xs pre) S W) :=
 fun s S T W W' hj hi hk hd ht => RowI.keeps hj hk hd (fun k h => Nat.le_trans hb (ht k h))
theorem RowI.grow {te ts : TypeId} (hne : te ≠ ts) {size : Nat} {w : World} {B5 n : Nat} {xs news : List Value} {S : Nat → Prop} {W W1 w1 : World} {a : Option Addr} {c : Nat} {v' : Value}
 (h1 : Blk W B5 ts [.slice a n c]) (h2 : W.ownsRow w.heap.size te size (.slice a n c) n xs) (h3 : Below w.heap.size w W) (h4 : ∀ k, S k ↔ k = B5 ∨ (Value.slice a n c).ownBlock = some k)
 (hk : Keeps (fun _ => False) W W1) (hown : w1.ownsRow w.heap.size te size v' (n + 1) (xs ++ news)) (hgrow : W1.grownBy w1 (Value.slice a n c).ownBlock) (hat : v'.ownBlock = (Value.slice a n c).ownBlock ∨ v'.ownBlock = some W1.heap.size) (hb5 : w.heap.size ≤ B5) :
 Blk w1 B5 ts [.slice a n c] ∧ ∃ S', Foot S S' W (w1.setCell ⟨B5, 0, none⟩ v') ∧ Inb S' (w1.setCell ⟨B5, 0, none⟩ v') ∧ RowI te ts size w B5 (n + 1) (xs ++ news) S' (w1.setCell ⟨B5, 0, none⟩ v') := by
 obtain ⟨g, cap, rfl⟩ := ownsRow_succ hown
 have h51 : Blk w1 B5 ts [.slice a n c] := (h1.keeps hk (fun h => h)).grown hgrow (own_ne h2 h1 hne)
 have hn5 : some B5 ≠ (Value.slice (some ⟨g, 0, none⟩) (n + 1) cap).ownBlock := own_ne hown h51 hne
 have hkk : Keeps S W w1 := (hk.mono (fun _ _ h => h.elim)).grown hgrow (fun k hk e => (h4 k).2 (.inr e))
 have hgl : g < w1.heap.size := (hown.lt g rfl).2
 refine ⟨h51, fun k => k = B5 ∨ k = g, ⟨hkk.setCell (p := ⟨B5, 0, none⟩) (fun _ => (h4 B5).2 (.inl rfl)) _, fun k h => ?_⟩, ?_, some ⟨g, 0, none⟩, cap, ?_, ?_, ?_, ?_⟩
 ·rcases h with rfl | rfl
  ·exact .inl ((h4 _).2 (.inl rfl))
  ·rcases hat with h | h
   ·exact .inl ((h4 _).2 (.inr h.symm))
   ·simp [Value.ownBlock] at h
    have := hk.size
    exact .inr Z8
 ·intro k h
  have := h51.lt
  rcases h with rfl | rfl <;> simpa [World.setCell]
 ·simpa using h51.set_ 0 (.slice (some ⟨g, 0, none⟩) (n + 1) cap)
 ·exact owns_setCell hown (p := ⟨B5, 0, none⟩) hn5.symm _
 ·refine Below.setCell ?_ (p := ⟨B5, 0, none⟩) hb5 _
  exact (h3.trans (hk.below h3.size (fun _ _ h => h))).grown hgrow (by have := h3.size; have := hk.size; omega) (fun k hk => (h2.lt k hk).1)
 ·intro k
  simp [Value.ownBlock, eq_comm]
def rbods : Code → List Code
 | .rangeFunc _ _ a b => b :: (rbods a ++ rbods b)
 | .loop c => rbods c
 | .seq a b => rbods a ++ rbods b
 | .block _ c => rbods c
 | .scope c => rbods c
 | .cond _ a b => rbods a ++ rbods b
 | _ => []
end Mem
end Go.Proofs.YtdbpfbokfmpgcaaGreat

namespace Go.Proofs.YtdbpfbokfmpgcaaGreat
namespace Mem
end Mem
open Go.RowKit
namespace Mem
section
variable {F : Fence} {n : Nat} {P : Program} {ops : Array Oper} {Q : Exit → Act → World → Prop} {md : Region.Mode} {S : World → Prop}
def noDefer (ops : Array Oper) : Bool := ops.toList.all fun o => match o.op with
 | .defer _ => false
 | _ => true
theorem noDefer_at {ops : Array Oper} (h : noDefer ops = true) {j : Nat} {o : Oper} (ho : ops[j]? = some o) : ∀ c, o.op ≠ .defer c := by
 intro c hc
 have hm : o ∈ ops.toList := Array.mem_toList_iff.2 (Array.mem_of_getElem? ho)
 have := (List.all_eq_true.1 h) o hm
 rw [hc] at this
 cases this
def HeldYield (F : Fence) (P : Program) (ops : Array Oper) (S : World → Prop) (o : Oper) (v : Value) (a : Act) : Prop := YieldsIf P ops S o v a ∧ ∀ w f, o.about P w a.eval = some f → F.fn f
theorem HeldYield.wpOpIn {i : Nat} {o : Oper} {v : Value} {a : Act} (hnd : noDefer ops = true) (hi : ops[i]? = some o) (hy : HeldYield F P ops S o v a)
 {K : Act → World → Prop} {w : World} (hS : S w) (h : K (a.put o.dst v) w) : wpOpIn F n P ops Q i K a w := by
 unfold Go.wpOpIn
 simp only [hi]
 have hab : ∀ f, o.about P w a.eval = some f → F.fn f := hy.2 w
 rcases hy.1 with ⟨hw, hv⟩ | ⟨hw, rfl⟩
 ·simp only [hw, if_true, Oper.wpIn, Oper.semAt_eq F.round a.eval o (noDefer_at hnd hi), hv w hS, Oper.uponIn]; exact ⟨hab, h⟩
 ·simp only [hw, Bool.false_eq_true, if_false]; exact ⟨hab, h⟩
theorem HeldYield.of_same {o : Oper} {v : Value} {a a' : Act} (hy : HeldYield F P ops S o v a) (he : execOp a'.eval o = execOp a.eval o)
 (hw : Region.wanted o (yielded ops a'.tmps) = Region.wanted o (yielded ops a.tmps)) (hb : ∀ w, o.about P w a'.eval = o.about P w a.eval) : HeldYield F P ops S o v a' :=
 ⟨hy.1.of_same he hw, fun w f => by rw [hb w]; exact hy.2 w f⟩
theorem held_put {j : Nat} {oi oj : Oper} {v : Value} (hnd : noDefer ops = true) (hj : ops[j]? = some oj) (hap : oi.apart ops oj = true)
 (hsi : ∀ cs b, oi.op ≠ .select cs b) (hsj : ∀ cs b, oj.op ≠ .select cs b)
 (hQ : ∀ c a w, Q (.panic c) (a.put oi.dst v) w → Q (.panic c) a w) {K : Act → World → Prop} {a : Act} {w : World}
 (hy : HeldYield F P ops S oi v a) (h : wpOpIn F n P ops Q j K (a.put oi.dst v) w) :
 wpOpIn F n P ops Q j (fun a' w' => HeldYield F P ops S oi v a' ∧ K (a'.put oi.dst v) w') a w := by
 obtain ⟨h1, h2, h3⟩ := Oper.apart_spec hap
 have hnj := noDefer_at hnd hj
 have keep : ∀ (a : Act), HeldYield F P ops S oi v a → ∀ u, HeldYield F P ops S oi v (a.put oj.dst u) := fun a hy u =>
  hy.of_same (execOp_put oi hsi a oj.dst u h3) (wanted_put oi a oj.dst u h3) (fun w => about_put oi w a oj.dst u h3)
 have keepD : ∀ d, HeldYield F P ops S oi v { a with defers := d :: a.defers } := fun d => hy.of_same rfl rfl (fun _ => rfl)
 unfold wpOpIn at *
 simp only [hj] at *
 rw [wanted_put oj a oi.dst v h1, about_put oj w a oi.dst v h1] at h
 split
 ·rename_i hw
  simp only [hw, if_true] at h
  unfold Oper.wpIn at *
  rw [about_put oj w a oi.dst v h1] at h
  refine ⟨h.1, ?_⟩
  have h := h.2
  rw [Oper.semAt_eq _ _ _ hnj, execOp_put oj hsj a oi.dst v h1] at h
  rw [Oper.semAt_eq _ _ _ hnj]
  generalize (execOp a.eval oj).run P w = r at *
  cases r with
  | ok x w' =>
   cases x <;> simp only [Oper.uponIn] at h ⊢
   case value u => exact ⟨keep a hy u, by rw [← Act.put_comm a v u h2]; exact h⟩
   case skip => exact ⟨keep a hy _, by rw [← Act.put_comm a v undef h2]; exact h⟩
   case defer d =>
    refine ⟨keep _ (keepD d) _, ?_⟩
    rw [← Act.put_comm _ v undef h2, ← Act.put_defers]
    exact h
   case enter f args =>
    refine ⟨h.1, CallsIn.mono h.2 fun e w'' he => ?_⟩
    cases e with
    | returned u => exact ⟨keep a hy u, by rw [← Act.put_comm a v u h2]; exact he⟩
    | panicked c => exact hQ _ _ _ he
    | outgrown => exact he
   case row row args => exact ⟨h.1, RowsIn.mono h.2 fun u w'' he => ⟨keep a hy u, by rw [← Act.put_comm a v u h2]; exact he⟩⟩
   case round l f tmps assign body =>
    refine ⟨h.1, RoundIn.mono h.2 fun e w'' he => ?_⟩
    cases e with
    | returned u => exact ⟨keep a hy u, by rw [← Act.put_comm a v u h2]; exact he⟩
    | panicked c => exact hQ _ _ _ he
    | outgrown => exact he
  | halt x w' =>
   cases x <;> simp only [Oper.uponIn] at h ⊢
   case panic u => exact hQ _ _ _ h
 ·rename_i hw
  simp only [hw] at h
  exact ⟨h.1, keep a hy _, by rw [← Act.put_comm a v undef h2]; exact h.2⟩
def anyHeld (F : Fence) (n : Nat) (P : Program) (md : Region.Mode) (ops : Array Oper) (Q : Exit → Act → World → Prop) (S : World → Prop) : Nat → Array Bool → Act → World → Prop
 | 0, listed, a, w => Region.ready md ops listed = [] ∧ Q .normal a w
 | fuel + 1, listed, a, w =>
  (Region.ready md ops listed = [] → Q .normal a w) ∧
  ∀ i ∈ Region.ready md ops listed, wpOpIn F n P ops Q i (fun a' w' => S w' ∧ anyHeld F n P md ops Q S fuel (listed.setIfInBounds i true) a' w') a w
theorem any_of_held : ∀ (fuel : Nat) (listed : Array Bool) (a : Act) (w : World), anyHeld F n P md ops Q S fuel listed a w → wpAnyIn F n P md ops Q fuel listed a w
 | 0, _, _, _, h => h
 | fuel + 1, _, _, _, h => ⟨h.1, fun i hi => wpOpIn_mono (fun a' w' h' => any_of_held fuel _ a' w' h'.2) (h.2 i hi)⟩
theorem anyHeld_first {i : Nat} {oi : Oper} {v : Value} (hnd : noDefer ops = true) (hi : ops[i]? = some oi) (hsel : ∀ (j : Nat) (o : Oper) cs b, ops[j]? = some o → o.op ≠ .select cs b)
 (hQ : ∀ c a w, Q (.panic c) (a.put oi.dst v) w → Q (.panic c) a w) :
 ∀ (fuel : Nat) (listed : Array Bool) (a : Act) (w : World),
  (∀ j oj, ops[j]? = some oj → j ≠ i → listed.getD j true = false → (∀ e ∈ oj.after, Region.binds md e = true → e.on ≠ i) → oi.apart ops oj = true) →
  i ∈ Region.ready md ops listed → HeldYield F P ops S oi v a → S w →
  anyHeld F n P md ops Q S fuel (listed.setIfInBounds i true) (a.put oi.dst v) w → anyHeld F n P md ops Q S (fuel + 1) listed a w := by
 intro fuel
 induction fuel with
 | zero =>
  intro listed a w _ hr hy hS H
  refine ⟨fun h => (by rw [h] at hr; cases hr), fun j hj => ?_⟩
  by_cases hji : j = i
  ·subst hji; exact hy.wpOpIn hnd hi hS ⟨hS, H⟩
  ·have := ready_mono hj hji
   rw [H.1] at this
   cases this
 | succ fuel ih =>
  intro listed a w hfree hr hy hS H
  refine ⟨fun h => (by rw [h] at hr; cases hr), fun j hj => ?_⟩
  by_cases hji : j = i
  ·subst hji; exact hy.wpOpIn hnd hi hS ⟨hS, H⟩
  ·have h1 := H.2 j (ready_mono hj hji)
   obtain ⟨hjun, oj, hoj, hall⟩ := mem_ready.1 hj
   have hnot : ∀ e ∈ oj.after, Region.binds md e = true → e.on ≠ i := fun e he hb heq => by
    have h1 := hall e he hb
    have h0 := (mem_ready.1 hr).1
    rw [heq] at h1
    rcases Nat.lt_or_ge i listed.size with h' | h'
    ·simp [h'] at h0 h1; rw [h0] at h1; cases h1
    ·simp [Array.getElem?_eq_none h'] at h1
   have h2 := held_put hnd hoj (hfree j oj hoj hji hjun hnot) (fun cs b => hsel i oi cs b hi) (fun cs b => hsel j oj cs b hoj) hQ hy h1
   have hfree' : ∀ k ok, ops[k]? = some ok → k ≠ i → (listed.setIfInBounds j true).getD k true = false →
    (∀ e ∈ ok.after, Region.binds md e = true → e.on ≠ i) → oi.apart ops ok = true := fun k ok hk hki hun hno => by
    refine hfree k ok hk hki ?_ hno
    by_cases hjk : j = k
    ·subst hjk; exact hjun
    ·rw [getD_set_ne true hjk] at hun; exact hun
   refine wpOpIn_mono (fun a' w' h3 => ⟨h3.2.1, ih (listed.setIfInBounds j true) a' w' hfree' (ready_mono hr (Ne.symm hji)) h3.1 h3.2.1 ?_⟩) h2
   rw [Array.setIfInBounds_comm _ _ hji]
   exact h3.2.2
theorem anyHeld_take (i : Nat) {oi : Oper} {v : Value} {fuel : Nat} {listed : Array Bool} {a : Act} {w : World} (hnd : noDefer ops = true) (hi : ops[i]? = some oi)
 (hs : Region.noSelect ops = true) (hf : Region.free md ops listed i = true) (hr : (Region.ready md ops listed).contains i = true)
 (hQ : ∀ c a w, Q (.panic c) (a.put oi.dst v) w → Q (.panic c) a w) (hy : HeldYield F P ops S oi v a) (hS : S w)
 (h : anyHeld F n P md ops Q S fuel (listed.setIfInBounds i true) (a.put oi.dst v) w) : anyHeld F n P md ops Q S (fuel + 1) listed a w :=
 anyHeld_first hnd hi (Region.noSelect_spec hs) hQ fuel listed a w (Region.free_spec hi hf) (by simpa using hr) hy hS h
theorem anyHeld_one (i : Nat) {o : Oper} {fuel : Nat} {listed : Array Bool} {a : Act} {w : World} (hr : Region.ready md ops listed = [i]) (ho : ops[i]? = some o) (hw : Region.wanted o (yielded ops a.tmps) = true)
 (h : ∀ K' : Act → World → Prop, (∀ a' w', S w' → anyHeld F n P md ops Q S fuel (listed.setIfInBounds i true) a' w' → K' a' w') → Oper.wpIn F n P o a w K' Q) : anyHeld F n P md ops Q S (fuel + 1) listed a w := by
 refine ⟨fun h0 => (by rw [hr] at h0; cases h0), fun j hj => ?_⟩
 rw [hr] at hj
 obtain rfl : j = i := by simpa using hj
 unfold wpOpIn
 rw [ho]
 simp only [hw, if_true]
 exact h _ fun a' w' hS h' => ⟨hS, h'⟩
theorem anyHeld_two (i j : Nat) {oi oj : Oper} {fuel : Nat} {listed : Array Bool} {a : Act} {w : World} (hr : Region.ready md ops listed = [i, j]) (hoi : ops[i]? = some oi) (hwi : Region.wanted oi (yielded ops a.tmps) = true) (hoj : ops[j]? = some oj) (hwj : Region.wanted oj (yielded ops a.tmps) = true)
 (h : ∀ K' : Act → World → Prop, (∀ a' w', S w' → anyHeld F n P md ops Q S fuel (listed.setIfInBounds i true) a' w' → K' a' w') → Oper.wpIn F n P oi a w K' Q)
 (h2 : ∀ K' : Act → World → Prop, (∀ a' w', S w' → anyHeld F n P md ops Q S fuel (listed.setIfInBounds j true) a' w' → K' a' w') → Oper.wpIn F n P oj a w K' Q) : anyHeld F n P md ops Q S (fuel + 1) listed a w := by
 refine ⟨fun h0 => (by rw [hr] at h0; cases h0), fun k hk => ?_⟩
 rw [hr] at hk
 simp only [List.mem_cons, List.not_mem_nil, or_false] at hk
 rcases hk with rfl | rfl
 ·unfold wpOpIn
  rw [hoi]
  simp only [hwi, if_true]
  exact h _ fun a' w' hS h' => ⟨hS, h'⟩
 ·unfold wpOpIn
  rw [hoj]
  simp only [hwj, if_true]
  exact h2 _ fun a' w' hS h' => ⟨hS, h'⟩
theorem anyHeld_done {listed : Array Bool} {a : Act} {w : World} (hr : Region.ready md ops listed = []) (h : Q .normal a w) :
 ∀ fuel, anyHeld F n P md ops Q S fuel listed a w
 | 0 => ⟨hr, h⟩
 | _ + 1 => ⟨fun _ => h, by rw [hr]; simp⟩
theorem region_heldIn (S : World → Prop) {id : Nat} {a : Act} {w : World} (hm : P.follows .mixedOrders = true)
 (h : anyHeld F n P .any ops Q S ops.size (Array.replicate ops.size false) a w.drew) : (Code.region id ops true).wpIn F n P Q a w :=
 wpIn_region_any hm (any_of_held _ _ _ _ h)
end
end Mem
open Go.RowKit
namespace Mem
theorem unroll (t : List Value) (n : Nat) (h : t.length = n) : t = (List.range n).map (fun i => t.getD i undef) := by
 apply List.ext_getElem
 ·simp [h]
 ·intro i h1 h2
  simp [h1]
end Mem
open Go.RowKit
namespace Mem
structure ElT (P : Program) (T e : TypeId) {α : Type} (f : α → List Value) (size : Nat) : Prop where
 row : P.underlying T = some (.slice e)
 info : ∃ i z, P.info? e = some i ∧ i.zero = some z ∧ i.size = size ∧ i.bytes ≤ 64 ∧ z.cells.size = size
 pos : 0 < size
 len : ∀ x, (f x).length = size
 one : ∀ x, ∀ u ∈ f x, u.oneCell' = true
theorem flatMap_len {α : Type} {f : α → List Value} {size : Nat} (h : ∀ x, (f x).length = size) (l : List α) : (l.flatMap f).length = l.length * size := by
 induction l with
 | nil => simp
 | cons a l ih => rw [List.flatMap_cons, List.length_append, ih, h, List.length_cons, Nat.add_mul]; omega
theorem own_n {w : World} {base : Nat} {e : TypeId} {size n m : Nat} {la : Option Addr} {lc : Nat} {xs : List Value} (h : w.ownsRow base e size (.slice la n lc) n xs) (hn : n = m) : w.ownsRow base e size (.slice la m lc) m xs := hn ▸ h
theorem app_f {P : Program} {T e : TypeId} {α : Type} {f : α → List Value} {size : Nat} (hE : ElT P T e f size) {ops : Array Oper} {rest : List Oper} {o : Oper} {a : Act} {w : World} {Q : Exit → Act → World → Prop} (hgd : o.guard = none) (s x : Operand)
 (ho : o.op = .call { callee := .builtin .append, args := #[s, x], argTypes := #[T, T] }) (base : Nat) (l : List α) (n : Nat) (la : Option Addr) (lc : Nat) (hs : a.eval s = .slice la n lc) (hO : w.ownsRow base e size (.slice la n lc) n (l.flatMap f))
 (p : α) (nb : Nat) (hx : a.eval x = .slice (some ⟨nb, 0, none⟩) 1 1) (hnew : ∀ j u, (f p)[j]? = some u → w.cell? ((⟨nb, 0, none⟩ : Addr).add j) = some u) (hl : n ≤ 1000000000) (hb : base ≤ w.heap.size)
 (h : ∀ g' cap' w', w'.ownsRow base e size (.slice (some ⟨g', 0, none⟩) (n + 1) cap') (n + 1) ((l ++ [p]).flatMap f) → w.grownBy w' (Value.slice la n lc).ownBlock → wpList P ops Q rest (a.put o.dst (.slice (some ⟨g', 0, none⟩) (n + 1) cap')) w') :
 wpList P ops Q (o :: rest) a w := by
 obtain ⟨i, z, hi, hz, h1, h2, h3⟩ := hE.info
 refine wpList_append_own_at w hgd s x T ho base e i z size i.bytes hE.row hi hz h1 rfl h3 hE.pos (.slice la n lc) n (l.flatMap f) hs hO ⟨nb, 0, none⟩ 1 1 (f p) hx (by rw [hE.len, Nat.one_mul]) hnew (hE.one p) ZAx ?_ hb ?_
 ·have := Nat.mul_le_mul (show n + 1 ≤ 1000000001 by omega) h2
  omega
 ·intro v' w' hown hgrow _ _
  obtain ⟨g', cap', rfl⟩ := ownsRow_succ hown
  have e2 : (l ++ [p]).flatMap f = l.flatMap f ++ f p := by simp
  exact h g' cap' w' (by rw [e2]; exact hown) hgrow
section
variable {P : Program} {md : Region.Mode} {ops : Array Oper} {Q : Exit → Act → World → Prop} {S : World → Prop}
theorem anyH_one (i : Nat) {o : Oper} {fuel : Nat} {listed : Array Bool} {a : Act} {w : World} (hr : Region.ready md ops listed = [i]) (ho : ops[i]? = some o) (hw : Region.wanted o (yielded ops a.tmps) = true)
 (h : ∀ K' : Act → World → Prop, (∀ a' w', S w' → wpAnyH P md ops Q S fuel (listed.setIfInBounds i true) a' w' → K' a' w') → Oper.wp P o a w K' Q) : wpAnyH P md ops Q S (fuel + 1) listed a w :=
 wpAnyH_ready hr ZA7 (AllReadyH.cons ho (fun K hK => by rw [if_pos hw]; exact h K (fun a w hS hW => hK.out a w hS (fun _ => hW))) AllReadyH.nil)
end
end Mem
end Go.Proofs.YtdbpfbokfmpgcaaGreat

