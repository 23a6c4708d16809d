/-
GsM: a map as a list of its keys and values, at any keys of one kind whose equality is plain.
-/
import Derived.Test.YtdbpfbokfmpgcaaGreatZabGrAGsPFiQGrBGrCGrDGrE
import Derived.Laws.StructEq
set_option linter.unusedVariables false
set_option linter.unusedSimpArgs false
set_option maxRecDepth 100000
attribute [local go_sem] Go.Oper.semAt_some
namespace Go.Proofs.YtdbpfbokfmpgcaaGreat
theorem ZAz {p : Prop} (h : p := by simp [he]) : p := h
theorem Zs {p : Prop} (h : p := by
 apply Array.ext_getElem?
 intro i
 rw [Array.getElem?_modify]
 split
 ·rename_i he; subst he; simp [toE]
 ·rename_i he
  simp only [List.getElem?_toArray, List.map_append, List.map_cons, List.getElem?_append, List.length_map]
  split
  ·rfl
  ·rcases Nat.lt_or_ge E1.length i with hlt | hge
   ·rw [show i - E1.length = (i - E1.length - 1) + 1 by omega]; rfl
   ·omega) : p := h
open Go.RowKit Go.Shelf
open Go.ChangeMaps (setBlock)
set_option linter.unusedSectionVars false
namespace Gs
open Mem
section
variable {α : Type} [DecidableEq α]
def toE (kv : α → Value) (e : α × Value × Nat) : MapEntry := ⟨kv e.1, e.2.1, e.2.2⟩
def findA (k : α) : List (α × Value × Nat) → Nat → Option (Nat × Value)
 | [], _ => none
 | e :: l, i => if k = e.1 then some (i, e.2.1) else findA k l (i + 1)
structure KeyT (P : Program) (kt : TypeId) (kv : α → Value) : Prop where
 chk : ∀ e k W, (Instr.checkKey e 10000 kt (kv k)).run P W = .ok () W
 find : ∀ k (l : List (α × Value × Nat)) W, (Instr.findKey kt (kv k) (l.map (toE kv))).run P W = .ok (findA k l 0) W
 stay : ∀ k W, (Instr.keyThatStays (kv k) (kv k)).run P W = .ok (kv k) W
theorem findA_none {k : α} : ∀ {l : List (α × Value × Nat)} {i : Nat}, (∀ e ∈ l, e.1 ≠ k) → findA k l i = none
 | [], _, _ => rfl
 | e :: l, i, h => by
  rw [findA, if_neg (fun he => h e ZA7 he.symm)]
  exact findA_none (fun e he => h e ZAz)
theorem findA_at {k : α} : ∀ {l1 : List (α × Value × Nat)} {v : Value} {b : Nat} {l2 : List (α × Value × Nat)} {i : Nat}, (∀ e ∈ l1, e.1 ≠ k) → findA k (l1 ++ (k, v, b) :: l2) i = some (i + l1.length, v)
 | [], v, b, l2, i, _ => by simp [findA]
 | e :: l1, v, b, l2, i, h => by
  rw [List.cons_append, findA, if_neg (fun he => h e ZA7 he.symm), findA_at (fun e he => h e ZAz)]
  simp; omega
structure MapE (kv : α → Value) (w : World) (r : Nat) (E : List (α × Value × Nat)) (clock : Nat) : Prop where
 heap : w.heap[r]? = some (.map (E.map (toE kv)).toArray clock)
 born : ∀ e ∈ E, e.2.2 < clock
 stamps : (E.map (·.2.2)).Nodup
 keys : (E.map (·.1)).Nodup
def kvs (E : List (α × Value × Nat)) : List (α × Value) := E.map fun e => (e.1, e.2.1)
def MapL (kv : α → Value) (w : World) (r : Nat) (L : List (α × Value)) : Prop := ∃ E clock, MapE kv w r E clock ∧ kvs E = L
def lookK (k : α) : List (α × Value) → Option Value
 | [] => none
 | p :: L => if p.1 = k then some p.2 else lookK k L
def setK (k : α) (v : Value) : List (α × Value) → List (α × Value)
 | [] => [(k, v)]
 | p :: L => if p.1 = k then (k, v) :: L else p :: setK k v L
def delK (k : α) (L : List (α × Value)) : List (α × Value) := L.filter fun p => decide (p.1 ≠ k)
variable {kv : α → Value} {w w' : World} {r clock : Nat} {E : List (α × Value × Nat)} {L : List (α × Value)} {S : Nat → Prop}
theorem kvs_keys (E : List (α × Value × Nat)) : (kvs E).map (·.1) = E.map (·.1) := by simp [kvs, Function.comp_def]
theorem MapE.lt (h : MapE kv w r E clock) : r < w.heap.size := (Array.getElem?_eq_some_iff.1 h.heap).1
theorem MapE.keeps (h : MapE kv w r E clock) (hk : Keeps S w w') (hn : ¬ S r) : MapE kv w' r E clock := ⟨(hk.block r h.lt hn).trans h.heap, h.born, h.stamps, h.keys⟩
theorem MapL.lt (h : MapL kv w r L) : r < w.heap.size := h.choose_spec.choose_spec.1.lt
theorem MapL.keeps (h : MapL kv w r L) (hk : Keeps S w w') (hn : ¬ S r) : MapL kv w' r L := by
 obtain ⟨E, c, h1, h2⟩ := h; exact ⟨E, c, h1.keeps hk hn, h2⟩
theorem MapL.alloc (h : MapL kv w r L) (o : Obj) : MapL kv (w.alloc o) r L := h.keeps ((Keeps.refl (fun _ => False) w).alloc o) (fun h => h)
theorem MapL.drew (h : MapL kv w r L) : MapL kv w.drew r L := h.keeps ((Keeps.refl (fun _ => False) w).drew) (fun h => h)
theorem MapL.ne {b : Nat} {t : TypeId} {cs : List Value} (h : MapL kv w r L) (hb : Blk w b t cs) : b ≠ r := by
 obtain ⟨E, c, h1, h2⟩ := h
 rintro rfl; have := h1.heap; unfold Blk at hb; rw [hb] at this; cases this
theorem MapL.own_ne {base : Nat} {e : TypeId} {size n : Nat} {v : Value} {xs : List Value} (h : MapL kv w r L) (ho : w.ownsRow base e size v n xs) : v.ownBlock ≠ some r := by
 obtain ⟨E, c, h1, h2⟩ := h
 rcases ho.2 with ⟨rfl, _⟩ | ⟨g', cap, cur, rfl, _, hh, _⟩
 ·simp [Value.ownBlock]
 ·intro he
  have : g' = r := by simpa [Value.ownBlock] using he
  subst this
  have := h1.heap
  rw [hh] at this; cases this
theorem MapL.nodup (h : MapL kv w r L) : (L.map (·.1)).Nodup := by
 obtain ⟨E, c, h1, rfl⟩ := h; rw [kvs_keys]; exact h1.keys
theorem MapL.new (kv : α → Value) (w : World) : MapL kv (w.alloc (.map #[] 0)) w.heap.size [] := ⟨[], 0, ⟨heap_alloc_new w _, ZA7, ZA7, ZA7⟩, rfl⟩
theorem lookK_kvs {k : α} : ∀ {E : List (α × Value × Nat)} {i : Nat}, (findA k E i).map (·.2) = lookK k (kvs E)
 | [], _ => rfl
 | e :: E, i => by
  rw [findA, show kvs (e :: E) = (e.1, e.2.1) :: kvs E from rfl, lookK]
  by_cases h : k = e.1
  ·rw [if_pos h, if_pos h.symm]; rfl
  ·rw [if_neg h, if_neg (Ne.symm h)]; exact lookK_kvs
theorem lookK_none {k : α} {L : List (α × Value)} (h : ∀ p ∈ L, p.1 ≠ k) : lookK k L = none := by
 induction L with
 | nil => rfl
 | cons p L ih => rw [lookK, if_neg (h p ZA7), ih (fun q hq => h q (by simp [hq]))]
theorem lookK_some {k : α} {L : List (α × Value)} {v : Value} (h : lookK k L = some v) : (k, v) ∈ L := by
 induction L with
 | nil => cases h
 | cons p L ih =>
  rw [lookK] at h
  split at h
  ·rename_i he; cases h; subst he; simp
  ·exact List.mem_cons_of_mem _ (ih h)
theorem lookK_mem {k : α} {L : List (α × Value)} {v : Value} (hn : (L.map (·.1)).Nodup) (h : (k, v) ∈ L) : lookK k L = some v := by
 induction L with
 | nil => cases h
 | cons p L ih =>
  rw [List.map_cons, List.nodup_cons] at hn
  rw [lookK]
  rcases List.mem_cons.1 h with rfl | h
  ·simp
  ·have hne : p.1 ≠ k := fun he => hn.1 (by rw [he]; exact List.mem_map.2 ⟨_, h, rfl⟩)
   rw [if_neg hne, ih hn.2 h]
variable {P : Program} {kt : TypeId}
theorem MapL.look (K : KeyT P kt kv) {mt et : TypeId} (hu : P.underlying mt = some (.map kt et)) {z : Value} (hz : ∀ W, (zeroValue et).run P W = .ok z W) (h : MapL kv w r L) (k : α) (ok : Bool) :
 (Instr.lookup mt (.map (some r)) (kv k) ok).run P w = .ok (if ok then .tuple #[(lookK k L).getD z, .bool (lookK k L).isSome] else (lookK k L).getD z) w := by
 obtain ⟨E, c, h1, rfl⟩ := h
 have hl := lookK_kvs (k := k) (E := E) (i := 0)
 rw [← hl]
 cases hf : findA k E 0 with
 | none => simp [Instr.lookup, run_underlying hu, MapKept.run_getObj_map h1.heap, K.chk, K.find, hf, hz, Result.andThen]
 | some p => obtain ⟨i, v⟩ := p; simp [Instr.lookup, run_underlying hu, MapKept.run_getObj_map h1.heap, K.chk, K.find, hf, Result.andThen]
theorem MapL.len {mt et : TypeId} (hu : P.underlying mt = some (.map kt et)) (h : MapL kv w r L) (ty : TypeId) : (Builtin.len_ #[mt] ty #[.map (some r)]).run P w = .ok (.int .i64 (L.length : Int)) w := by
 obtain ⟨E, c, h1, rfl⟩ := h
 simp [Builtin.len_, Builtin.lenOf, run_underlying hu, MapKept.run_getObj_map h1.heap, Result.andThen, goInt, kvs]
theorem set_mapE (h : MapE kv w r E clock) {E' : List (α × Value × Nat)} {c' : Nat} (hb : ∀ e ∈ E', e.2.2 < c') (hs : (E'.map (·.2.2)).Nodup) (hk : (E'.map (·.1)).Nodup) :
 MapE kv (Gr.setM w r (E'.map (toE kv)).toArray c') r E' c' := by
 refine ⟨?_, hb, hs, hk⟩
 have := h.lt
 simp [Gr.setM, Array.getElem?_setIfInBounds_self_of_lt this]
theorem push_mapE (h : MapE kv w r E clock) {k : α} (v : Value) (hno : ∀ e ∈ E, e.1 ≠ k) : MapE kv (Gr.setM w r ((E ++ [(k, v, clock)]).map (toE kv)).toArray (clock + 1)) r (E ++ [(k, v, clock)]) (clock + 1) := by
 refine set_mapE h ?_ ?_ ?_
 ·intro e he
  rcases List.mem_append.1 he with he | he
  ·have := h.born e he; omega
  ·simp at he; subst he; simp
 ·rw [List.map_append, List.nodup_append]
  refine ⟨h.stamps, ZA7, ?_⟩
  intro a ha b hb
  simp at hb; subst hb
  obtain ⟨e, he, rfl⟩ := List.mem_map.1 ha
  have := h.born e he; omega
 ·rw [List.map_append, List.nodup_append]
  refine ⟨h.keys, ZA7, ?_⟩
  intro a ha b hb
  simp at hb; subst hb
  obtain ⟨e, he, rfl⟩ := List.mem_map.1 ha
  exact hno e he
theorem setK_no {k : α} {v : Value} {L : List (α × Value)} (h : ∀ p ∈ L, p.1 ≠ k) : setK k v L = L ++ [(k, v)] := by
 induction L with
 | nil => rfl
 | cons p L ih => rw [setK, if_neg (h p ZA7), ih (fun q hq => h q (by simp [hq]))]; rfl
theorem setK_at {k : α} {v u : Value} {L1 L2 : List (α × Value)} (h : ∀ p ∈ L1, p.1 ≠ k) : setK k v (L1 ++ (k, u) :: L2) = L1 ++ (k, v) :: L2 := by
 induction L1 with
 | nil => simp [setK]
 | cons p L ih => rw [List.cons_append, setK, if_neg (h p ZA7), ih (fun q hq => h q (by simp [hq]))]; rfl
theorem MapL.update (K : KeyT P kt kv) {mt et : TypeId} (hu : P.underlying mt = some (.map kt et)) (h : MapL kv w r L) {k : α} (v : Value) (hno : ∀ p ∈ L, p.1 ≠ k) :
 ∃ w', (Instr.mapUpdate mt (.map (some r)) (kv k) v).run P w = .ok () w' ∧ MapL kv w' r (L ++ [(k, v)]) ∧ Keeps (fun x => x = r) w w' := by
 obtain ⟨E, c, h1, rfl⟩ := h
 have hno' : ∀ e ∈ E, e.1 ≠ k := fun e he => hno (e.1, e.2.1) (List.mem_map.2 ⟨e, he, rfl⟩)
 refine ⟨Gr.setM w r ((E ++ [(k, v, c)]).map (toE kv)).toArray (c + 1), ?_, ⟨_, _, push_mapE h1 v hno', by simp [kvs]⟩, Gr.setM_keeps _ _ _ _⟩
 simp [Instr.mapUpdate, run_underlying hu, MapKept.run_getObj_map h1.heap, MapKept.run_setObj_map _ h1.heap, K.chk, K.find, findA_none hno', Result.andThen, Gr.setM, toE]
theorem split_at {k : α} : ∀ {E : List (α × Value × Nat)}, (∃ e ∈ E, e.1 = k) → (E.map (·.1)).Nodup → ∃ E1 v b E2, E = E1 ++ (k, v, b) :: E2 ∧ (∀ e ∈ E1, e.1 ≠ k) ∧ ∀ e ∈ E2, e.1 ≠ k
 | [], h, _ => by obtain ⟨e, he, _⟩ := h; cases he
 | e :: E, h, hn => by
  rw [List.map_cons, List.nodup_cons] at hn
  by_cases he : e.1 = k
  ·refine ⟨[], e.2.1, e.2.2, E, by rw [← he]; rfl, ZA7, fun x hx hxe => hn.1 (by rw [he, ← hxe]; exact List.mem_map.2 ⟨x, hx, rfl⟩)⟩
  ·obtain ⟨x, hx, hxe⟩ := h
   have hx' : x ∈ E := by
    rcases List.mem_cons.1 hx with rfl | hx
    ·exact absurd hxe he
    ·exact hx
   obtain ⟨E1, v, b, E2, rfl, h1, h2⟩ := split_at ⟨x, hx', hxe⟩ hn.2
   refine ⟨e :: E1, v, b, E2, rfl, ?_, h2⟩
   intro y hy
   rcases List.mem_cons.1 hy with rfl | hy
   ·exact he
   ·exact h1 y hy
theorem MapL.delete (K : KeyT P kt kv) {mt et kty : TypeId} (hu : P.underlying mt = some (.map kt et)) (h : MapL kv w r L) (k : α) (ty : TypeId) :
 ∃ w', (Builtin.delete_ #[mt, kty] ty #[.map (some r), kv k]).run P w = .ok (.tuple #[]) w' ∧ MapL kv w' r (delK k L) ∧ Keeps (fun x => x = r) w w' := by
 obtain ⟨E, c, h1, rfl⟩ := h
 by_cases hh : ∃ e ∈ E, e.1 = k
 ·obtain ⟨E1, v, b, E2, rfl, n1, n2⟩ := split_at hh h1.keys
  have sub : (E1 ++ E2).Sublist (E1 ++ (k, v, b) :: E2) := List.Sublist.append (List.Sublist.refl _) (List.sublist_cons_self _ _)
  refine ⟨Gr.setM w r ((E1 ++ E2).map (toE kv)).toArray c, ?_, ⟨E1 ++ E2, c, set_mapE h1 (fun e he => h1.born e (sub.subset he)) (h1.stamps.sublist (sub.map _)) (h1.keys.sublist (sub.map _)), ?_⟩, Gr.setM_keeps _ _ _ _⟩
  ·have he : ((E1 ++ (k, v, b) :: E2).map (toE kv)).toArray.eraseIdxIfInBounds E1.length = ((E1 ++ E2).map (toE kv)).toArray := by
    rw [Array.eraseIdxIfInBounds, dif_pos ZA7]
    apply Array.ext'
    simp [List.eraseIdx_append_of_length_le]
   simp only [Builtin.delete_, List.getElem?_toArray, List.getElem?_cons_zero, List.getElem?_cons_succ, Sem.run_bind, run_underlying hu, MapKept.run_getObj_map h1.heap, Result.andThen, K.chk, K.find, findA_at n1, Nat.zero_add]
   rw [MapKept.run_setObj_map _ h1.heap, he]
   rfl
  ·unfold delK kvs
   rw [List.map_append, List.map_append, List.filter_append, List.map_cons, List.filter_cons, if_neg ZA7]
   rw [List.filter_eq_self.2, List.filter_eq_self.2]
   ·intro p hp; obtain ⟨e, he, rfl⟩ := List.mem_map.1 hp; simpa using n2 e he
   ·intro p hp; obtain ⟨e, he, rfl⟩ := List.mem_map.1 hp; simpa using n1 e he
 ·have hno : ∀ e ∈ E, e.1 ≠ k := fun e he h => hh ⟨e, he, h⟩
  refine ⟨Gr.setM w r (E.map (toE kv)).toArray c, ?_, ⟨E, c, set_mapE h1 h1.born h1.stamps h1.keys, ?_⟩, Gr.setM_keeps _ _ _ _⟩
  ·simp only [Builtin.delete_, List.getElem?_toArray, List.getElem?_cons_zero, List.getElem?_cons_succ, Sem.run_bind, run_underlying hu, MapKept.run_getObj_map h1.heap, Result.andThen, K.chk, K.find, findA_none hno]
   rw [MapKept.run_setObj_map _ h1.heap]
   rfl
  ·unfold delK
   rw [List.filter_eq_self.2]
   intro p hp; obtain ⟨e, he, rfl⟩ := List.mem_map.1 hp; simpa using hno e he
def EntL (kv : α → Value) (w : World) (r : Nat) (L : List (α × Value)) (k : α) (st : Nat) : Prop :=
 ∃ E1 v E2 clock, MapE kv w r (E1 ++ (k, v, st) :: E2) clock ∧ (∀ e ∈ E1, e.1 ≠ k) ∧ ∀ u, kvs (E1 ++ (k, u, st) :: E2) = setK k u L
theorem EntL.keeps {k : α} {st : Nat} (h : EntL kv w r L k st) (hk : Keeps S w w') (hn : ¬ S r) : EntL kv w' r L k st := by
 obtain ⟨E1, v, E2, c, h1, h2, h3⟩ := h; exact ⟨E1, v, E2, c, h1.keeps hk hn, h2, h3⟩
theorem EntL.lt {k : α} {st : Nat} (h : EntL kv w r L k st) : r < w.heap.size := by
 obtain ⟨E1, v, E2, c, h1, h2, h3⟩ := h; exact h1.lt
theorem MapL.entry (K : KeyT P kt kv) {mt et : TypeId} (hu : P.underlying mt = some (.map kt et)) {z : Value} (hz : ∀ W, (zeroValue et).run P W = .ok z W) (h : MapL kv w r L) (k : α) :
 ∃ w' st, (Instr.mapEntry mt (.map (some r)) (kv k)).run P w = .ok (.tuple #[(lookK k L).getD z, .int .i64 (st : Nat)]) w' ∧ EntL kv w' r L k st ∧ Keeps (fun x => x = r) w w' := by
 obtain ⟨E, c, h1, rfl⟩ := h
 by_cases hh : ∃ e ∈ E, e.1 = k
 ·obtain ⟨E1, v, b, E2, rfl, n1, n2⟩ := split_at hh h1.keys
  refine ⟨Gr.setM w r ((E1 ++ (k, v, b) :: E2).map (toE kv)).toArray c, b, ?_, ⟨E1, v, E2, c, set_mapE h1 h1.born h1.stamps h1.keys, n1, fun u => ?_⟩, Gr.setM_keeps _ _ _ _⟩
  ·have hi : (((E1 ++ (k, v, b) :: E2).map (toE kv)).toArray)[E1.length]? = some (toE kv (k, v, b)) := by simp
   have hm : ((E1 ++ (k, v, b) :: E2).map (toE kv)).toArray.modify E1.length (fun e => { e with key := kv k }) = ((E1 ++ (k, v, b) :: E2).map (toE kv)).toArray := by
    apply Array.ext_getElem?
    intro i
    rw [Array.getElem?_modify]
    split
    ·rename_i he; subst he; rw [hi]; rfl
    ·rfl
   rw [← lookK_kvs (i := 0), findA_at n1]
   simp only [Instr.mapEntry, Sem.run_bind, run_underlying hu, MapKept.run_getObj_map h1.heap, Result.andThen, K.chk, K.find, findA_at n1, Nat.zero_add, hi, Option.map_some, Option.getD_some, toE, K.stay]
   rw [MapKept.run_setObj_map _ h1.heap]
   rw [hm]
   rfl
  ·unfold kvs
   rw [List.map_append, List.map_cons, List.map_append, List.map_cons, setK_at]
   intro p hp; obtain ⟨e, he, rfl⟩ := List.mem_map.1 hp; exact n1 e he
 ·have hno : ∀ e ∈ E, e.1 ≠ k := fun e he h => hh ⟨e, he, h⟩
  have hnoL : ∀ p ∈ kvs E, p.1 ≠ k := fun p hp => by obtain ⟨e, he, rfl⟩ := List.mem_map.1 hp; exact hno e he
  refine ⟨Gr.setM w r ((E ++ [(k, z, c)]).map (toE kv)).toArray (c + 1), c, ?_, ⟨E, z, [], c + 1, push_mapE h1 z hno, hno, fun u => ?_⟩, Gr.setM_keeps _ _ _ _⟩
  ·rw [lookK_none hnoL]
   simp [Instr.mapEntry, run_underlying hu, MapKept.run_getObj_map h1.heap, MapKept.run_setObj_map _ h1.heap, K.chk, K.find, findA_none hno, hz, Result.andThen, Gr.setM, toE, goInt]
  ·rw [setK_no hnoL]; simp [kvs]
theorem EntL.store {mt : TypeId} {k : α} {st : Nat} (h : EntL kv w r L k st) (v : Value) :
 ∃ w', (Instr.entryStore mt (.map (some r)) (.int .i64 (st : Nat)) v).run P w = .ok () w' ∧ MapL kv w' r (setK k v L) ∧ Keeps (fun x => x = r) w w' := by
 obtain ⟨E1, u, E2, c, h1, h2, h3⟩ := h
 have hst := h1.stamps
 rw [List.map_append, List.map_cons, List.nodup_append] at hst
 have hi : (((E1 ++ (k, u, st) :: E2).map (toE kv)).toArray).findIdx? (fun e : MapEntry => (e.born : Int) == (st : Int)) = some E1.length := by
  rw [List.findIdx?_toArray, List.map_append, List.findIdx?_append, List.findIdx?_eq_none_iff.2]
  ·simp [toE, List.findIdx?_cons]
  ·intro x hx
   obtain ⟨e, he, rfl⟩ := List.mem_map.1 hx
   have := hst.2.2 e.2.2 (List.mem_map.2 ⟨e, he, rfl⟩) st ZA7
   simp [toE]; omega
 have hm : ((E1 ++ (k, u, st) :: E2).map (toE kv)).toArray.modify E1.length (fun e => { e with val := v }) = ((E1 ++ (k, v, st) :: E2).map (toE kv)).toArray := by
  exact Zs
 have hb : ∀ e ∈ E1 ++ (k, v, st) :: E2, e.2.2 < c := fun e he => by
  rcases List.mem_append.1 he with he | he
  ·exact h1.born e ZAz
  ·rcases List.mem_cons.1 he with rfl | he
   ·exact h1.born (k, u, st) ZA7
   ·exact h1.born e ZAz
 refine ⟨Gr.setM w r ((E1 ++ (k, v, st) :: E2).map (toE kv)).toArray c, ?_, ⟨_, c, set_mapE h1 hb (by have := h1.stamps; simpa using this) (by have := h1.keys; simpa using this), h3 v⟩, Gr.setM_keeps _ _ _ _⟩
 simp only [Instr.entryStore, Sem.run_bind, MapKept.run_getObj_map h1.heap, Result.andThen, asInt, asIntOf, Sem.run_pure, hi, MapKept.run_setObj_map _ h1.heap, hm]
 rfl
end
/-! the keys of a grid's maps -/
def kid (id : Nat) : Value := .int .u32 (id : Int)
def kcl (c : Int × Int) : Value := .agg #[.int .i32 c.1, .int .i32 c.2]
theorem ckid (e : Bool) (k : Nat) (W : World) : (Instr.checkKey e 10000 35 (kid k)).run Tryz.prog W = .ok () W := by kernel_rfl
theorem ckcl (e : Bool) (k : Int × Int) (W : World) : (Instr.checkKey e 10000 181 (kcl k)).run Tryz.prog W = .ok () W := by kernel_rfl
theorem stid (k : Nat) (W : World) : (Instr.keyThatStays (kid k) (kid k)).run Tryz.prog W = .ok (kid k) W := by simp [Instr.keyThatStays, Instr.sameBits, kid]
theorem stcl (k : Int × Int) (W : World) : (Instr.keyThatStays (kcl k) (kcl k)).run Tryz.prog W = .ok (kcl k) W := by simp [Instr.keyThatStays, Instr.sameBits, kcl]
theorem nowid (k : Nat) : ∀ (l : List (Nat × Value × Nat)) (i : Nat), Instr.findNow (.int .u32) (kid k) (l.map (toE kid)) i = some (findA k l i)
 | [], _ => rfl
 | e :: l, i => by
  rw [List.map_cons, Instr.findNow, findA]
  by_cases h : k = e.1
  ·simp [toE, kid, Instr.sameNow, h]
  ·have h' : ¬ (k : Int) = (e.1 : Int) := by omega
   have ih := nowid k l (i + 1)
   have hb : ((k : Int) == (e.1 : Int)) = false := by simpa using h'
   rw [if_neg h]
   simp only [toE, kid, Instr.sameNow, if_true, hb] at ih ⊢
   exact ih
theorem keyid : KeyT Tryz.prog 35 kid where
 chk := ckid
 stay := stid
 find := fun k l W => by
  unfold Instr.findKey
  rw [Sem.run_bind, run_underlying Tryz.underlying35]
  simp only [Result.andThen, nowid]
  rfl
theorem eqcl (a b c d : Int) (W : World) : (Op.equal 181 (.agg #[.int .i32 a, .int .i32 b]) (.agg #[.int .i32 c, .int .i32 d])).run Tryz.prog W = .ok (decide ((a, b) = (c, d))) W := by
 have hS : Tryz.prog.underlying 181 = some (.struct (Tryz.prog.fieldsOf 181)) := by kernel_rfl
 have hp : Tryz.prog.stoodInHeld 181 = false := by kernel_rfl
 unfold Op.equal
 rw [show Op.maxDepth = 9999 + 1 from rfl, run_equalIn_agg W 9999 181 _ _ hS hp]
 simp only [Program.fieldsOf, Tryz.underlying181]
 go_simp
 by_cases h1 : a = c <;> by_cases h2 : b = d <;> simp [h1, h2]
theorem asking (k : Int × Int) (W : World) : ∀ (l : List ((Int × Int) × Value × Nat)) (i : Nat), (Instr.findAsking 181 (kcl k) (l.map (toE kcl)) i).run Tryz.prog W = .ok (findA k l i) W
 | [], _ => rfl
 | e :: l, i => by
  rw [List.map_cons, Instr.findAsking, findA, Sem.run_bind]
  have := eqcl k.1 k.2 e.1.1 e.1.2 W
  simp only [kcl, toE] at this ⊢
  rw [this]
  by_cases h : k = e.1
  ·simp [Result.andThen, h]
  ·have ih := asking k W l (i + 1)
   simp only [kcl] at ih
   simp [Result.andThen, h]
   exact ih
theorem keycl : KeyT Tryz.prog 181 kcl where
 chk := ckcl
 stay := stcl
 find := fun k l W => by
  unfold Instr.findKey
  rw [Sem.run_bind, run_underlying Tryz.underlying181]
  rcases l with _ | ⟨e, l⟩
  ·rfl
  ·have : Instr.findNow (Tryz.prog.underlying 181).get! (kcl k) ((e :: l).map (toE kcl)) 0 = none := by rfl
   rw [Tryz.underlying181] at this
   simp only [Result.andThen]
   simp only [Option.get!] at this
   rw [this]
   exact asking k W (e :: l) 0
end Gs
end Go.Proofs.YtdbpfbokfmpgcaaGreat
