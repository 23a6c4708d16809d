/-
GmM: a map as a list of its keys and values, at keys of one kind whose equality is plain; numbers of 32 bits as keys.
GmA: a map of slices by numbers of 32 bits: each list in a row of its own.
GmB: a map of slices that are read, each from where its cursor stands.
GmC: a map of slices by numbers: one element more under a number, by a look and an update.
-/
import Derived.Test.YtdaindihobfokaaGreatDoorZaaMbPMem
import Derived.Laws.StructEq
import Derived.Deep.RegionHeld3
import Derived.Shelf.Abstract
import Derived.MapKept
import Derived.ChangeMaps4
import Derived.RangeFuncBox
import Derived.Maps.AppendAt
namespace Go.Proofs.YtdaindihobfokaaGreatDoor
open Go.RowKit Go.Shelf
open Go.ChangeMaps (setBlock)
set_option linter.unusedVariables false
set_option linter.unusedSimpArgs false
set_option linter.unusedSectionVars false
attribute [local go_sem] Oper.semAt_some
namespace Gm
open Mem
def setM (w : World) (r : Nat) (es : Array MapEntry) (k : Nat) : World := { w with heap := w.heap.setIfInBounds r (.map es k) }
theorem setM_keeps (w : World) (r : Nat) (es : Array MapEntry) (k : Nat) : Keeps (fun x => x = r) w (setM w r es k) :=
  ⟨rfl, rfl, rfl, by simp [setM], fun x _ hn => by simp [setM, Array.getElem?_setIfInBounds_ne (Ne.symm hn)]⟩
section
variable {α : Type} [DecidableEq α]
def toE (kv : α → Value) (e : α × Value × Nat) : MapEntry := ⟨kv e.1, e.2.1, e.2.2⟩
def findA (k : α) : List (α × Value × Nat) → Nat → Option (Nat × Value)
  | [], _ => none
  | e :: l, i => if k = e.1 then some (i, e.2.1) else findA k l (i + 1)
structure KeyT (P : Program) (kt : TypeId) (kv : α → Value) : Prop where
  chk : ∀ e k W, (Instr.checkKey e 10000 kt (kv k)).run P W = .ok () W
  find : ∀ k (l : List (α × Value × Nat)) W, (Instr.findKey kt (kv k) (l.map (toE kv))).run P W = .ok (findA k l 0) W
  stay : ∀ k W, (Instr.keyThatStays (kv k) (kv k)).run P W = .ok (kv k) W
theorem findA_none {k : α} : ∀ {l : List (α × Value × Nat)} {i : Nat}, (∀ e ∈ l, e.1 ≠ k) → findA k l i = none
  | [], _, _ => rfl
  | e :: l, i, h => by
    rw [findA, if_neg (fun he => h e (by simp) he.symm)]
    exact findA_none (fun e he => h e (by simp [he]))
theorem findA_at {k : α} : ∀ {l1 : List (α × Value × Nat)} {v : Value} {b : Nat} {l2 : List (α × Value × Nat)} {i : Nat}, (∀ e ∈ l1, e.1 ≠ k) → findA k (l1 ++ (k, v, b) :: l2) i = some (i + l1.length, v)
  | [], v, b, l2, i, _ => by simp [findA]
  | e :: l1, v, b, l2, i, h => by
    rw [List.cons_append, findA, if_neg (fun he => h e (by simp) he.symm), findA_at (fun e he => h e (by simp [he]))]
    simp; omega
/-- block r is a map of the entries E -/
structure MapE (kv : α → Value) (w : World) (r : Nat) (E : List (α × Value × Nat)) (clock : Nat) : Prop where
  heap : w.heap[r]? = some (.map (E.map (toE kv)).toArray clock)
  born : ∀ e ∈ E, e.2.2 < clock
  stamps : (E.map (·.2.2)).Nodup
  keys : (E.map (·.1)).Nodup
def kvs (E : List (α × Value × Nat)) : List (α × Value) := E.map fun e => (e.1, e.2.1)
/-- block r is a map of the keys and values L, in the order in which they came -/
def MapL (kv : α → Value) (w : World) (r : Nat) (L : List (α × Value)) : Prop := ∃ E clock, MapE kv w r E clock ∧ kvs E = L
def lookK (k : α) : List (α × Value) → Option Value
  | [] => none
  | p :: L => if p.1 = k then some p.2 else lookK k L
def setK (k : α) (v : Value) : List (α × Value) → List (α × Value)
  | [] => [(k, v)]
  | p :: L => if p.1 = k then (k, v) :: L else p :: setK k v L
def delK (k : α) (L : List (α × Value)) : List (α × Value) := L.filter fun p => decide (p.1 ≠ k)
variable {kv : α → Value} {w w' : World} {r clock : Nat} {E : List (α × Value × Nat)} {L : List (α × Value)} {S : Nat → Prop}
theorem kvs_keys (E : List (α × Value × Nat)) : (kvs E).map (·.1) = E.map (·.1) := by simp [kvs, Function.comp_def]
theorem MapE.lt (h : MapE kv w r E clock) : r < w.heap.size := (Array.getElem?_eq_some_iff.1 h.heap).1
theorem MapE.keeps (h : MapE kv w r E clock) (hk : Keeps S w w') (hn : ¬ S r) : MapE kv w' r E clock := ⟨(hk.block r h.lt hn).trans h.heap, h.born, h.stamps, h.keys⟩
theorem MapL.lt (h : MapL kv w r L) : r < w.heap.size := h.choose_spec.choose_spec.1.lt
theorem MapL.keeps (h : MapL kv w r L) (hk : Keeps S w w') (hn : ¬ S r) : MapL kv w' r L := by
  obtain ⟨E, c, h1, h2⟩ := h; exact ⟨E, c, h1.keeps hk hn, h2⟩
theorem MapL.alloc (h : MapL kv w r L) (o : Obj) : MapL kv (w.alloc o) r L := h.keeps ((Keeps.refl (fun _ => False) w).alloc o) (fun h => h)
theorem MapL.drew (h : MapL kv w r L) : MapL kv w.drew r L := h.keeps ((Keeps.refl (fun _ => False) w).drew) (fun h => h)
theorem MapL.ne {b : Nat} {t : TypeId} {cs : List Value} (h : MapL kv w r L) (hb : Blk w b t cs) : b ≠ r := by
  obtain ⟨E, c, h1, h2⟩ := h
  rintro rfl; have := h1.heap; unfold Blk at hb; rw [hb] at this; cases this
theorem MapL.own_ne {base : Nat} {e : TypeId} {size n : Nat} {v : Value} {xs : List Value} (h : MapL kv w r L) (ho : w.ownsRow base e size v n xs) : v.ownBlock ≠ some r := by
  obtain ⟨E, c, h1, h2⟩ := h
  rcases ho.2 with ⟨rfl, _⟩ | ⟨g', cap, cur, rfl, _, hh, _⟩
  · simp [Value.ownBlock]
  · intro he
    have : g' = r := by simpa [Value.ownBlock] using he
    subst this
    have := h1.heap
    rw [hh] at this; cases this
theorem MapL.nodup (h : MapL kv w r L) : (L.map (·.1)).Nodup := by
  obtain ⟨E, c, h1, rfl⟩ := h; rw [kvs_keys]; exact h1.keys
theorem MapL.new (kv : α → Value) (w : World) : MapL kv (w.alloc (.map #[] 0)) w.heap.size [] := ⟨[], 0, ⟨heap_alloc_new w _, by simp, by simp, by simp⟩, rfl⟩
theorem lookK_kvs {k : α} : ∀ {E : List (α × Value × Nat)} {i : Nat}, (findA k E i).map (·.2) = lookK k (kvs E)
  | [], _ => rfl
  | e :: E, i => by
    rw [findA, show kvs (e :: E) = (e.1, e.2.1) :: kvs E from rfl, lookK]
    by_cases h : k = e.1
    · rw [if_pos h, if_pos h.symm]; rfl
    · rw [if_neg h, if_neg (Ne.symm h)]; exact lookK_kvs
theorem lookK_none {k : α} {L : List (α × Value)} (h : ∀ p ∈ L, p.1 ≠ k) : lookK k L = none := by
  induction L with
  | nil => rfl
  | cons p L ih => rw [lookK, if_neg (h p (by simp)), ih (fun q hq => h q (by simp [hq]))]
theorem lookK_some {k : α} {L : List (α × Value)} {v : Value} (h : lookK k L = some v) : (k, v) ∈ L := by
  induction L with
  | nil => cases h
  | cons p L ih =>
    rw [lookK] at h
    split at h
    · rename_i he; cases h; subst he; simp
    · exact List.mem_cons_of_mem _ (ih h)
theorem lookK_mem {k : α} {L : List (α × Value)} {v : Value} (hn : (L.map (·.1)).Nodup) (h : (k, v) ∈ L) : lookK k L = some v := by
  induction L with
  | nil => cases h
  | cons p L ih =>
    rw [List.map_cons, List.nodup_cons] at hn
    rw [lookK]
    rcases List.mem_cons.1 h with rfl | h
    · simp
    · have hne : p.1 ≠ k := fun he => hn.1 (by rw [he]; exact List.mem_map.2 ⟨_, h, rfl⟩)
      rw [if_neg hne, ih hn.2 h]
variable {P : Program} {kt : TypeId}
theorem MapL.look (K : KeyT P kt kv) {mt et : TypeId} (hu : P.underlying mt = some (.map kt et)) {z : Value} (hz : ∀ W, (zeroValue et).run P W = .ok z W) (h : MapL kv w r L) (k : α) (ok : Bool) :
    (Instr.lookup mt (.map (some r)) (kv k) ok).run P w = .ok (if ok then .tuple #[(lookK k L).getD z, .bool (lookK k L).isSome] else (lookK k L).getD z) w := by
  obtain ⟨E, c, h1, rfl⟩ := h
  have hl := lookK_kvs (k := k) (E := E) (i := 0)
  rw [← hl]
  cases hf : findA k E 0 with
  | none => simp [Instr.lookup, run_underlying hu, MapKept.run_getObj_map h1.heap, K.chk, K.find, hf, hz, Result.andThen]
  | some p => obtain ⟨i, v⟩ := p; simp [Instr.lookup, run_underlying hu, MapKept.run_getObj_map h1.heap, K.chk, K.find, hf, Result.andThen]
theorem MapL.len {mt et : TypeId} (hu : P.underlying mt = some (.map kt et)) (h : MapL kv w r L) (ty : TypeId) : (Builtin.len_ #[mt] ty #[.map (some r)]).run P w = .ok (.int .i64 (L.length : Int)) w := by
  obtain ⟨E, c, h1, rfl⟩ := h
  simp [Builtin.len_, Builtin.lenOf, run_underlying hu, MapKept.run_getObj_map h1.heap, Result.andThen, goInt, kvs]
theorem set_mapE (h : MapE kv w r E clock) {E' : List (α × Value × Nat)} {c' : Nat} (hb : ∀ e ∈ E', e.2.2 < c') (hs : (E'.map (·.2.2)).Nodup) (hk : (E'.map (·.1)).Nodup) :
    MapE kv (setM w r (E'.map (toE kv)).toArray c') r E' c' := by
  refine ⟨?_, hb, hs, hk⟩
  have := h.lt
  simp [setM, Array.getElem?_setIfInBounds_self_of_lt this]
theorem push_mapE (h : MapE kv w r E clock) {k : α} (v : Value) (hno : ∀ e ∈ E, e.1 ≠ k) : MapE kv (setM w r ((E ++ [(k, v, clock)]).map (toE kv)).toArray (clock + 1)) r (E ++ [(k, v, clock)]) (clock + 1) := by
  refine set_mapE h ?_ ?_ ?_
  · intro e he
    rcases List.mem_append.1 he with he | he
    · have := h.born e he; omega
    · simp at he; subst he; simp
  · rw [List.map_append, List.nodup_append]
    refine ⟨h.stamps, by simp, ?_⟩
    intro a ha b hb
    simp at hb; subst hb
    obtain ⟨e, he, rfl⟩ := List.mem_map.1 ha
    have := h.born e he; omega
  · rw [List.map_append, List.nodup_append]
    refine ⟨h.keys, by simp, ?_⟩
    intro a ha b hb
    simp at hb; subst hb
    obtain ⟨e, he, rfl⟩ := List.mem_map.1 ha
    exact hno e he
theorem setK_no {k : α} {v : Value} {L : List (α × Value)} (h : ∀ p ∈ L, p.1 ≠ k) : setK k v L = L ++ [(k, v)] := by
  induction L with
  | nil => rfl
  | cons p L ih => rw [setK, if_neg (h p (by simp)), ih (fun q hq => h q (by simp [hq]))]; rfl
theorem setK_at {k : α} {v u : Value} {L1 L2 : List (α × Value)} (h : ∀ p ∈ L1, p.1 ≠ k) : setK k v (L1 ++ (k, u) :: L2) = L1 ++ (k, v) :: L2 := by
  induction L1 with
  | nil => simp [setK]
  | cons p L ih => rw [List.cons_append, setK, if_neg (h p (by simp)), ih (fun q hq => h q (by simp [hq]))]; rfl
theorem MapL.update (K : KeyT P kt kv) {mt et : TypeId} (hu : P.underlying mt = some (.map kt et)) (h : MapL kv w r L) {k : α} (v : Value) (hno : ∀ p ∈ L, p.1 ≠ k) :
    ∃ w', (Instr.mapUpdate mt (.map (some r)) (kv k) v).run P w = .ok () w' ∧ MapL kv w' r (L ++ [(k, v)]) ∧ Keeps (fun x => x = r) w w' := by
  obtain ⟨E, c, h1, rfl⟩ := h
  have hno' : ∀ e ∈ E, e.1 ≠ k := fun e he => hno (e.1, e.2.1) (List.mem_map.2 ⟨e, he, rfl⟩)
  refine ⟨setM w r ((E ++ [(k, v, c)]).map (toE kv)).toArray (c + 1), ?_, ⟨_, _, push_mapE h1 v hno', by simp [kvs]⟩, setM_keeps _ _ _ _⟩
  simp [Instr.mapUpdate, run_underlying hu, MapKept.run_getObj_map h1.heap, MapKept.run_setObj_map _ h1.heap, K.chk, K.find, findA_none hno', Result.andThen, setM, toE]
theorem split_at {k : α} : ∀ {E : List (α × Value × Nat)}, (∃ e ∈ E, e.1 = k) → (E.map (·.1)).Nodup → ∃ E1 v b E2, E = E1 ++ (k, v, b) :: E2 ∧ (∀ e ∈ E1, e.1 ≠ k) ∧ ∀ e ∈ E2, e.1 ≠ k
  | [], h, _ => by obtain ⟨e, he, _⟩ := h; cases he
  | e :: E, h, hn => by
    rw [List.map_cons, List.nodup_cons] at hn
    by_cases he : e.1 = k
    · refine ⟨[], e.2.1, e.2.2, E, by rw [← he]; rfl, by simp, fun x hx hxe => hn.1 (by rw [he, ← hxe]; exact List.mem_map.2 ⟨x, hx, rfl⟩)⟩
    · obtain ⟨x, hx, hxe⟩ := h
      have hx' : x ∈ E := by
        rcases List.mem_cons.1 hx with rfl | hx
        · exact absurd hxe he
        · exact hx
      obtain ⟨E1, v, b, E2, rfl, h1, h2⟩ := split_at ⟨x, hx', hxe⟩ hn.2
      refine ⟨e :: E1, v, b, E2, rfl, ?_, h2⟩
      intro y hy
      rcases List.mem_cons.1 hy with rfl | hy
      · exact he
      · exact h1 y hy
theorem MapL.delete (K : KeyT P kt kv) {mt et kty : TypeId} (hu : P.underlying mt = some (.map kt et)) (h : MapL kv w r L) (k : α) (ty : TypeId) :
    ∃ w', (Builtin.delete_ #[mt, kty] ty #[.map (some r), kv k]).run P w = .ok (.tuple #[]) w' ∧ MapL kv w' r (delK k L) ∧ Keeps (fun x => x = r) w w' := by
  obtain ⟨E, c, h1, rfl⟩ := h
  by_cases hh : ∃ e ∈ E, e.1 = k
  · obtain ⟨E1, v, b, E2, rfl, n1, n2⟩ := split_at hh h1.keys
    have sub : (E1 ++ E2).Sublist (E1 ++ (k, v, b) :: E2) := List.Sublist.append (List.Sublist.refl _) (List.sublist_cons_self _ _)
    refine ⟨setM w r ((E1 ++ E2).map (toE kv)).toArray c, ?_, ⟨E1 ++ E2, c, set_mapE h1 (fun e he => h1.born e (sub.subset he)) (h1.stamps.sublist (sub.map _)) (h1.keys.sublist (sub.map _)), ?_⟩, setM_keeps _ _ _ _⟩
    · have he : ((E1 ++ (k, v, b) :: E2).map (toE kv)).toArray.eraseIdxIfInBounds E1.length = ((E1 ++ E2).map (toE kv)).toArray := by
        rw [Array.eraseIdxIfInBounds, dif_pos (by simp)]
        apply Array.ext'
        simp [List.eraseIdx_append_of_length_le]
      simp only [Builtin.delete_, List.getElem?_toArray, List.getElem?_cons_zero, List.getElem?_cons_succ, Sem.run_bind, run_underlying hu, MapKept.run_getObj_map h1.heap, Result.andThen, K.chk, K.find, findA_at n1, Nat.zero_add]
      rw [MapKept.run_setObj_map _ h1.heap, he]
      rfl
    · unfold delK kvs
      rw [List.map_append, List.map_append, List.filter_append, List.map_cons, List.filter_cons, if_neg (by simp)]
      rw [List.filter_eq_self.2, List.filter_eq_self.2]
      · intro p hp; obtain ⟨e, he, rfl⟩ := List.mem_map.1 hp; simpa using n2 e he
      · intro p hp; obtain ⟨e, he, rfl⟩ := List.mem_map.1 hp; simpa using n1 e he
  · have hno : ∀ e ∈ E, e.1 ≠ k := fun e he h => hh ⟨e, he, h⟩
    refine ⟨setM w r (E.map (toE kv)).toArray c, ?_, ⟨E, c, set_mapE h1 h1.born h1.stamps h1.keys, ?_⟩, setM_keeps _ _ _ _⟩
    · simp only [Builtin.delete_, List.getElem?_toArray, List.getElem?_cons_zero, List.getElem?_cons_succ, Sem.run_bind, run_underlying hu, MapKept.run_getObj_map h1.heap, Result.andThen, K.chk, K.find, findA_none hno]
      rw [MapKept.run_setObj_map _ h1.heap]
      rfl
    · unfold delK
      rw [List.filter_eq_self.2]
      intro p hp; obtain ⟨e, he, rfl⟩ := List.mem_map.1 hp; simpa using hno e he
/-- behind 'mapEntry': the map with the key in it, and the key's stamp -/
def EntL (kv : α → Value) (w : World) (r : Nat) (L : List (α × Value)) (k : α) (st : Nat) : Prop :=
  ∃ E1 v E2 clock, MapE kv w r (E1 ++ (k, v, st) :: E2) clock ∧ (∀ e ∈ E1, e.1 ≠ k) ∧ ∀ u, kvs (E1 ++ (k, u, st) :: E2) = setK k u L
theorem EntL.keeps {k : α} {st : Nat} (h : EntL kv w r L k st) (hk : Keeps S w w') (hn : ¬ S r) : EntL kv w' r L k st := by
  obtain ⟨E1, v, E2, c, h1, h2, h3⟩ := h; exact ⟨E1, v, E2, c, h1.keeps hk hn, h2, h3⟩
theorem EntL.lt {k : α} {st : Nat} (h : EntL kv w r L k st) : r < w.heap.size := by
  obtain ⟨E1, v, E2, c, h1, h2, h3⟩ := h; exact h1.lt
theorem MapL.entry (K : KeyT P kt kv) {mt et : TypeId} (hu : P.underlying mt = some (.map kt et)) {z : Value} (hz : ∀ W, (zeroValue et).run P W = .ok z W) (h : MapL kv w r L) (k : α) :
    ∃ w' st, (Instr.mapEntry mt (.map (some r)) (kv k)).run P w = .ok (.tuple #[(lookK k L).getD z, .int .i64 (st : Nat)]) w' ∧ EntL kv w' r L k st ∧ Keeps (fun x => x = r) w w' := by
  obtain ⟨E, c, h1, rfl⟩ := h
  by_cases hh : ∃ e ∈ E, e.1 = k
  · obtain ⟨E1, v, b, E2, rfl, n1, n2⟩ := split_at hh h1.keys
    refine ⟨setM w r ((E1 ++ (k, v, b) :: E2).map (toE kv)).toArray c, b, ?_, ⟨E1, v, E2, c, set_mapE h1 h1.born h1.stamps h1.keys, n1, fun u => ?_⟩, setM_keeps _ _ _ _⟩
    · have hi : (((E1 ++ (k, v, b) :: E2).map (toE kv)).toArray)[E1.length]? = some (toE kv (k, v, b)) := by simp
      have hm : ((E1 ++ (k, v, b) :: E2).map (toE kv)).toArray.modify E1.length (fun e => { e with key := kv k }) = ((E1 ++ (k, v, b) :: E2).map (toE kv)).toArray := by
        apply Array.ext_getElem?
        intro i
        rw [Array.getElem?_modify]
        split
        · rename_i he; subst he; rw [hi]; rfl
        · rfl
      rw [← lookK_kvs (i := 0), findA_at n1]
      simp only [Instr.mapEntry, Sem.run_bind, run_underlying hu, MapKept.run_getObj_map h1.heap, Result.andThen, K.chk, K.find, findA_at n1, Nat.zero_add, hi, Option.map_some, Option.getD_some, toE, K.stay]
      rw [MapKept.run_setObj_map _ h1.heap]
      rw [hm]
      rfl
    · unfold kvs
      rw [List.map_append, List.map_cons, List.map_append, List.map_cons, setK_at]
      intro p hp; obtain ⟨e, he, rfl⟩ := List.mem_map.1 hp; exact n1 e he
  · have hno : ∀ e ∈ E, e.1 ≠ k := fun e he h => hh ⟨e, he, h⟩
    have hnoL : ∀ p ∈ kvs E, p.1 ≠ k := fun p hp => by obtain ⟨e, he, rfl⟩ := List.mem_map.1 hp; exact hno e he
    refine ⟨setM w r ((E ++ [(k, z, c)]).map (toE kv)).toArray (c + 1), c, ?_, ⟨E, z, [], c + 1, push_mapE h1 z hno, hno, fun u => ?_⟩, setM_keeps _ _ _ _⟩
    · rw [lookK_none hnoL]
      simp [Instr.mapEntry, run_underlying hu, MapKept.run_getObj_map h1.heap, MapKept.run_setObj_map _ h1.heap, K.chk, K.find, findA_none hno, hz, Result.andThen, setM, toE, goInt]
    · rw [setK_no hnoL]; simp [kvs]
theorem EntL.store {mt : TypeId} {k : α} {st : Nat} (h : EntL kv w r L k st) (v : Value) :
    ∃ w', (Instr.entryStore mt (.map (some r)) (.int .i64 (st : Nat)) v).run P w = .ok () w' ∧ MapL kv w' r (setK k v L) ∧ Keeps (fun x => x = r) w w' := by
  obtain ⟨E1, u, E2, c, h1, h2, h3⟩ := h
  have hst := h1.stamps
  rw [List.map_append, List.map_cons, List.nodup_append] at hst
  have hi : (((E1 ++ (k, u, st) :: E2).map (toE kv)).toArray).findIdx? (fun e : MapEntry => (e.born : Int) == (st : Int)) = some E1.length := by
    rw [List.findIdx?_toArray, List.map_append, List.findIdx?_append, List.findIdx?_eq_none_iff.2]
    · simp [toE, List.findIdx?_cons]
    · intro x hx
      obtain ⟨e, he, rfl⟩ := List.mem_map.1 hx
      have := hst.2.2 e.2.2 (List.mem_map.2 ⟨e, he, rfl⟩) st (by simp)
      simp [toE]; omega
  have hm : ((E1 ++ (k, u, st) :: E2).map (toE kv)).toArray.modify E1.length (fun e => { e with val := v }) = ((E1 ++ (k, v, st) :: E2).map (toE kv)).toArray := by
    apply Array.ext_getElem?
    intro i
    rw [Array.getElem?_modify]
    split
    · rename_i he; subst he; simp [toE]
    · rename_i he
      simp only [List.getElem?_toArray, List.map_append, List.map_cons, List.getElem?_append, List.length_map]
      split
      · rfl
      · rcases Nat.lt_or_ge E1.length i with hlt | hge
        · rw [show i - E1.length = (i - E1.length - 1) + 1 by omega]; rfl
        · omega
  have hb : ∀ e ∈ E1 ++ (k, v, st) :: E2, e.2.2 < c := fun e he => by
    rcases List.mem_append.1 he with he | he
    · exact h1.born e (by simp [he])
    · rcases List.mem_cons.1 he with rfl | he
      · exact h1.born (k, u, st) (by simp)
      · exact h1.born e (by simp [he])
  refine ⟨setM w r ((E1 ++ (k, v, st) :: E2).map (toE kv)).toArray c, ?_, ⟨_, c, set_mapE h1 hb (by have := h1.stamps; simpa using this) (by have := h1.keys; simpa using this), h3 v⟩, setM_keeps _ _ _ _⟩
  simp only [Instr.entryStore, Sem.run_bind, MapKept.run_getObj_map h1.heap, Result.andThen, asInt, asIntOf, Sem.run_pure, hi, MapKept.run_setObj_map _ h1.heap, hm]
  rfl
end
def kid (id : Nat) : Value := .int .u32 (id : Int)
theorem ckid (e : Bool) (k : Nat) (W : World) : (Instr.checkKey e 10000 26 (kid k)).run Tryz.prog W = .ok () W := by kernel_rfl
theorem stid (k : Nat) (W : World) : (Instr.keyThatStays (kid k) (kid k)).run Tryz.prog W = .ok (kid k) W := by simp [Instr.keyThatStays, Instr.sameBits, kid]
theorem nowid (k : Nat) : ∀ (l : List (Nat × Value × Nat)) (i : Nat), Instr.findNow (.int .u32) (kid k) (l.map (toE kid)) i = some (findA k l i)
  | [], _ => rfl
  | e :: l, i => by
    rw [List.map_cons, Instr.findNow, findA]
    by_cases h : k = e.1
    · simp [toE, kid, Instr.sameNow, h]
    · have h' : ¬ (k : Int) = (e.1 : Int) := by omega
      have ih := nowid k l (i + 1)
      have hb : ((k : Int) == (e.1 : Int)) = false := by simpa using h'
      rw [if_neg h]
      simp only [toE, kid, Instr.sameNow, if_true, hb] at ih ⊢
      exact ih
theorem keyid : KeyT Tryz.prog 26 kid where
  chk := ckid
  stay := stid
  find := fun k l W => by
    unfold Instr.findKey
    rw [Sem.run_bind, run_underlying Tryz.underlying26]
    simp only [Result.andThen, nowid]
    rfl
end Gm
end Go.Proofs.YtdaindihobfokaaGreatDoor
namespace Go.Proofs.YtdaindihobfokaaGreatDoor
open Go.RowKit Go.Shelf
set_option linter.unusedVariables false
set_option linter.unusedSimpArgs false
set_option linter.unusedSectionVars false
namespace Gm
open Mem
/-- a cell's list: the cell, the numbers, where they lie, how many fit -/
structure SE (β : Type) where
  c : Nat
  ids : List β
  g : Nat
  cap : Nat
def SE.sl {β : Type} (e : SE β) : Value := .slice (some ⟨e.g, 0, none⟩) e.ids.length e.cap
def kvE {β : Type} (M : List (SE β)) : List (Nat × Value) := M.map fun e => (e.c, e.sl)
def viewE {β : Type} (M : List (SE β)) : List (Nat × List β) := M.map fun e => (e.c, e.ids)
def Own {β : Type} (M : List (SE β)) (k : Nat) : Prop := ∃ e ∈ M, e.g = k
structure SlM {β : Type} (T : TypeId) (size : Nat) (f : β → List Value) (w : World) (r : Nat) (M : List (SE β)) : Prop where
  map : MapL kid w r (kvE M)
  own : ∀ e ∈ M, w.ownsRow 0 T size e.sl e.ids.length (e.ids.flatMap f)
  apart : (M.map (·.g)).Nodup
section
variable {β : Type} {P : Program} {T : TypeId} {size : Nat} {f : β → List Value} {w w' : World} {r : Nat} {M : List (SE β)}
theorem SlM.lt (h : SlM T size f w r M) : r < w.heap.size := h.map.lt
theorem SlM.own_lt (h : SlM T size f w r M) {k : Nat} (hk : Own M k) : k < w.heap.size := by
  obtain ⟨e, he, rfl⟩ := hk
  exact ((h.own e he).lt e.g rfl).2
theorem SlM.own_ne (h : SlM T size f w r M) {k : Nat} (hk : Own M k) : k ≠ r := by
  obtain ⟨e, he, rfl⟩ := hk
  intro e1
  exact (h.map.own_ne (h.own e he)) (by simp [SE.sl, Value.ownBlock, e1])
theorem SlM.keeps {S : Nat → Prop} (h : SlM T size f w r M) (hk : Keeps S w w') (hr : ¬ S r) (ho : ∀ k, Own M k → ¬ S k) : SlM T size f w' r M :=
  ⟨h.map.keeps hk hr, fun e he => owns_keeps (h.own e he) hk (fun b hb => ho b ⟨e, he, by simpa [SE.sl, Value.ownBlock] using hb⟩), h.apart⟩
theorem SlM.kd (h : SlM T size f w r M) (hk : Keeps (fun _ => False) w w') : SlM T size f w' r M := h.keeps hk (fun h => h) (fun _ _ h => h)
theorem SlM.new (w : World) : SlM T size f (w.alloc (.map #[] 0)) w.heap.size ([] : List (SE β)) := ⟨MapL.new kid w, by simp, by simp⟩
theorem SlM.ne (h : SlM T size f w r M) {b : Nat} {t : TypeId} {cs : List Value} (hb : Blk w b t cs) : b ≠ r := h.map.ne hb
theorem SlM.ne_own (h : SlM T size f w r M) {b : Nat} {t : TypeId} {cs : List Value} (hb : Blk w b t cs) (hne : T ≠ t) : ¬ Own M b := by
  rintro ⟨e, he, rfl⟩
  exact Mem.own_ne (h.own e he) hb hne (by simp [SE.sl, Value.ownBlock])
/-- the list of a cell in the map: nothing, or the one entry's -/
theorem SlM.at_ (h : SlM T size f w r M) (c : Nat) : ((∀ e ∈ M, e.c ≠ c) ∧ lookK c (kvE M) = none) ∨ ∃ M1 e M2, M = M1 ++ e :: M2 ∧ e.c = c ∧ (∀ x ∈ M1, x.c ≠ c) ∧ (∀ x ∈ M2, x.c ≠ c) ∧ lookK c (kvE M) = some e.sl := by
  have hn := h.map.nodup
  unfold kvE at hn
  rw [List.map_map] at hn
  clear h
  induction M with
  | nil => exact .inl ⟨by simp, rfl⟩
  | cons e M ih =>
    rw [List.map_cons, List.nodup_cons] at hn
    by_cases he : e.c = c
    · refine .inr ⟨[], e, M, rfl, he, by simp, fun x hx hxe => hn.1 (List.mem_map.2 ⟨x, hx, by simp [hxe, he]⟩), ?_⟩
      simp [kvE, lookK, he]
    · rcases ih hn.2 with ⟨h1, h2⟩ | ⟨M1, x, M2, rfl, h1, h2, h3, h4⟩
      · refine .inl ⟨fun x hx => ?_, ?_⟩
        · rcases List.mem_cons.1 hx with rfl | hx
          · exact he
          · exact h1 x hx
        · show lookK c ((e.c, e.sl) :: kvE M) = none
          rw [lookK, if_neg he, h2]
      · refine .inr ⟨e :: M1, x, M2, rfl, h1, fun y hy => ?_, h3, ?_⟩
        · rcases List.mem_cons.1 hy with rfl | hy
          · exact he
          · exact h2 y hy
        · show lookK c ((e.c, e.sl) :: kvE (M1 ++ x :: M2)) = _
          rw [lookK, if_neg he, h4]
/-- a number more in a cell's list -/
def addC {β : Type} (p : β) (C : List (Nat × List β)) (c : Nat) : List (Nat × List β) :=
  match C with
  | [] => [(c, [p])]
  | e :: L => if e.1 = c then (c, e.2 ++ [p]) :: L else e :: addC p L c
theorem addC_no {p : β} {c : Nat} {C : List (Nat × List β)} (h : ∀ e ∈ C, e.1 ≠ c) : addC p C c = C ++ [(c, [p])] := by
  induction C with
  | nil => rfl
  | cons e L ih => rw [addC, if_neg (h e (by simp)), ih (fun x hx => h x (by simp [hx]))]; rfl
theorem addC_at {p : β} {c : Nat} {V : List β} {L1 L2 : List (Nat × List β)} (h : ∀ e ∈ L1, e.1 ≠ c) : addC p (L1 ++ (c, V) :: L2) c = L1 ++ (c, V ++ [p]) :: L2 := by
  induction L1 with
  | nil => simp [addC]
  | cons e L ih => rw [List.cons_append, addC, if_neg (h e (by simp)), ih (fun x hx => h x (by simp [hx]))]; rfl
/-- 'm[c] = append(m[c], id)', its three parts -/
theorem SlM.put {MT et : TypeId} (K : KeyT P 26 kid) (hu : P.underlying MT = some (.map 26 et)) (hz : ∀ W, (zeroValue et).run P W = .ok (.slice none 0 0) W) (hlen : ∀ x, (f x).length = size) (h : SlM T size f w r M) (c : Nat) (p : β) : ∃ w1 st v V, (Instr.mapEntry MT (.map (some r)) (kid c)).run P w = .ok (.tuple #[v, .int .i64 ((st : Nat) : Int)]) w1 ∧ Keeps (fun k => k = r) w w1 ∧ w1.ownsRow 0 T size v V.length (V.flatMap f) ∧ (V = [] ∨ ∃ e ∈ M, e.ids = V) ∧ (∀ k, v.ownBlock = some k → Own M k) ∧
    ∀ w2 v', w1.grownBy w2 v.ownBlock → w2.ownsRow 0 T size v' (V.length + 1) (V.flatMap f ++ f p) → (v'.ownBlock = v.ownBlock ∨ v'.ownBlock = some w1.heap.size) →
      ∃ w3 M', (Instr.entryStore MT (.map (some r)) (.int .i64 ((st : Nat) : Int)) v').run P w2 = .ok () w3 ∧ Keeps (fun k => k = r) w2 w3 ∧ SlM T size f w3 r M' ∧ viewE M' = addC p (viewE M) c ∧ ∀ k, Own M' k → Own M k ∨ k = w1.heap.size := by
  obtain ⟨w1, st, hrun, hE, hk1⟩ := h.map.entry K hu hz c
  have hr1 : r < w1.heap.size := hE.lt
  have own1 : ∀ e ∈ M, w1.ownsRow 0 T size e.sl e.ids.length (e.ids.flatMap f) := fun e he => owns_keeps (h.own e he) hk1 (fun b hb e1 => h.own_ne ⟨e, he, rfl⟩ (by simpa [SE.sl, Value.ownBlock, e1] using hb))
  have fin : ∀ (v : Value) (V : List β) (M1 M2 : List (SE β)) (w2 : World) (v' : Value), (∀ k, v.ownBlock = some k → Own M k) → (∀ x ∈ M1 ++ M2, x ∈ M ∧ (∀ k, v.ownBlock = some k → x.g ≠ k)) → (∀ x ∈ M1, x.c ≠ c) → ((M1 ++ M2).map (·.g)).Nodup →
      (∀ u, setK c u (kvE M) = kvE M1 ++ (c, u) :: kvE M2) → (addC p (viewE M) c = viewE M1 ++ (c, V ++ [p]) :: viewE M2) →
      w1.grownBy w2 v.ownBlock → w2.ownsRow 0 T size v' (V.length + 1) (V.flatMap f ++ f p) → (v'.ownBlock = v.ownBlock ∨ v'.ownBlock = some w1.heap.size) →
      ∃ w3 M', (Instr.entryStore MT (.map (some r)) (.int .i64 ((st : Nat) : Int)) v').run P w2 = .ok () w3 ∧ Keeps (fun k => k = r) w2 w3 ∧ SlM T size f w3 r M' ∧ viewE M' = addC p (viewE M) c ∧ ∀ k, Own M' k → Own M k ∨ k = w1.heap.size := by
    intro v V M1 M2 w2 v' hvo hM hM1 hnd hset hadd hgrow hown hat
    obtain ⟨g, cap, rfl⟩ := ownsRow_succ hown
    have hk2 : Keeps (fun k => some k = v.ownBlock) w1 w2 := Keeps.of_grown hgrow
    have hrv : ¬ (some r = v.ownBlock) := fun e => h.own_ne (hvo r e.symm) rfl
    obtain ⟨w3, hrun3, hM3, hk3⟩ := (hE.keeps hk2 hrv).store (mt := MT) (.slice (some ⟨g, 0, none⟩) (V.length + 1) cap)
    have hgv : Own M g ∨ g = w1.heap.size := by
      rcases hat with e | e
      · exact .inl (hvo g (by rw [← e]; rfl))
      · exact .inr (by simpa [Value.ownBlock] using e)
    have hgr : g ≠ r := by
      rcases hgv with h1 | h1
      · exact h.own_ne h1
      · omega
    refine ⟨w3, M1 ++ ⟨c, V ++ [p], g, cap⟩ :: M2, hrun3, hk3, ⟨?_, ?_, ?_⟩, ?_, ?_⟩
    · rw [hset] at hM3
      simpa [kvE, SE.sl] using hM3
    · have old : ∀ x ∈ M1 ++ M2, w3.ownsRow 0 T size x.sl x.ids.length (x.ids.flatMap f) := fun x hx => by
        obtain ⟨h1, h2⟩ := hM x hx
        refine owns_keeps (owns_keeps (own1 x h1) hk2 (fun b hb e1 => ?_)) hk3 (fun b hb e1 => h.own_ne ⟨x, h1, rfl⟩ (by simpa [SE.sl, Value.ownBlock, e1] using hb))
        exact h2 b e1.symm (by simpa [SE.sl, Value.ownBlock] using hb)
      intro x hx
      rcases List.mem_append.1 hx with hx | hx
      · exact old x (by simp [hx])
      · rcases List.mem_cons.1 hx with rfl | hx
        · have h3 := owns_keeps hown hk3 (fun b hb e1 => hgr (by simp [Value.ownBlock] at hb; omega))
          simpa [SE.sl] using h3
        · exact old x (by simp [hx])
    · have hng : ∀ x ∈ M1 ++ M2, x.g ≠ g := fun x hx e1 => by
        obtain ⟨h1, h2⟩ := hM x hx
        rcases hat with e | e
        · exact h2 g (by rw [← e]; rfl) e1
        · have h3 : g = w1.heap.size := by simpa [Value.ownBlock] using e
          have h4 := h.own_lt ⟨x, h1, rfl⟩
          have h5 := hk1.size
          omega
      have hp : ((M1 ++ ⟨c, V ++ [p], g, cap⟩ :: M2).map (·.g)).Perm (g :: (M1 ++ M2).map (·.g)) := by
        rw [List.map_append, List.map_cons, List.map_append]
        exact List.perm_middle
      rw [hp.nodup_iff, List.nodup_cons]
      refine ⟨fun hm => ?_, hnd⟩
      obtain ⟨x, hx, e1⟩ := List.mem_map.1 hm
      exact hng x hx e1
    · rw [hadd]; simp [viewE]
    · rintro k ⟨x, hx, rfl⟩
      rcases List.mem_append.1 hx with hx | hx
      · exact .inl ⟨x, (hM x (by simp [hx])).1, rfl⟩
      · rcases List.mem_cons.1 hx with rfl | hx
        · exact hgv
        · exact .inl ⟨x, (hM x (by simp [hx])).1, rfl⟩
  rcases h.at_ c with ⟨hno, hl⟩ | ⟨M1, e, M2, hMe, hec, h1, h2, hl⟩
  · rw [hl] at hrun
    refine ⟨w1, st, .slice none 0 0, [], hrun, hk1, World.ownsRow_nil _ _ _ _, .inl rfl, fun k hk => by simp [Value.ownBlock] at hk, fun w2 v' hg ho ha => ?_⟩
    refine fin (.slice none 0 0) [] M [] w2 v' (fun k hk => by simp [Value.ownBlock] at hk) (fun x hx => ⟨by simpa using hx, fun k hk => by simp [Value.ownBlock] at hk⟩) hno (by simpa using h.apart) (fun u => ?_) ?_ hg ho ha
    · rw [setK_no]
      · simp [kvE]
      · intro q hp; obtain ⟨x, hx, rfl⟩ := List.mem_map.1 hp; exact hno x hx
    · rw [addC_no]
      · simp [viewE]
      · intro q hp; obtain ⟨x, hx, rfl⟩ := List.mem_map.1 hp; exact hno x hx
  · rw [hl] at hrun
    have heM : e ∈ M := by rw [hMe]; simp
    have hap := h.apart
    rw [hMe, List.map_append, List.map_cons, List.nodup_append] at hap
    have hnd : ((M1 ++ M2).map (·.g)).Nodup := by
      have := h.apart
      rw [hMe] at this
      exact this.sublist ((List.Sublist.append (List.Sublist.refl _) (List.sublist_cons_self _ _)).map _)
    refine ⟨w1, st, e.sl, e.ids, hrun, hk1, own1 e heM, .inr ⟨e, heM, rfl⟩, fun k hk => ⟨e, heM, by simpa [SE.sl, Value.ownBlock] using hk⟩, fun w2 v' hg ho ha => ?_⟩
    refine fin e.sl e.ids M1 M2 w2 v' (fun k hk => ⟨e, heM, by simpa [SE.sl, Value.ownBlock] using hk⟩) (fun x hx => ⟨?_, fun k hk => ?_⟩) h1 hnd (fun u => ?_) ?_ hg ho ha
    · rw [hMe]
      rcases List.mem_append.1 hx with hx | hx <;> simp [hx]
    · have hk' : e.g = k := by simpa [SE.sl, Value.ownBlock] using hk
      subst hk'
      rcases List.mem_append.1 hx with hx | hx
      · exact hap.2.2 x.g (List.mem_map.2 ⟨x, hx, rfl⟩) e.g (by simp)
      · intro e1
        exact (List.nodup_cons.1 hap.2.1).1 (by rw [← e1]; exact List.mem_map.2 ⟨x, hx, rfl⟩)
    · rw [hMe]
      unfold kvE
      rw [List.map_append, List.map_cons, hec, setK_at]
      intro q hp; obtain ⟨x, hx, rfl⟩ := List.mem_map.1 hp; exact h1 x hx
    · rw [hMe]
      unfold viewE
      rw [List.map_append, List.map_cons, hec, addC_at]
      intro q hp; obtain ⟨x, hx, rfl⟩ := List.mem_map.1 hp; exact h1 x hx
end
end Gm
end Go.Proofs.YtdaindihobfokaaGreatDoor
namespace Go.Proofs.YtdaindihobfokaaGreatDoor
open Go.RowKit Go.Shelf
set_option linter.unusedVariables false
set_option linter.unusedSimpArgs false
set_option linter.unusedSectionVars false
namespace Gm
open Mem
section
variable {α : Type} [DecidableEq α] {P : Program} {kt : TypeId} {kv : α → Value} {w : World} {r : Nat} {L : List (α × Value)}
theorem lookK_setK {k j : α} {v : Value} : ∀ {L : List (α × Value)}, lookK j (setK k v L) = if j = k then some v else lookK j L
  | [] => by
    rw [setK, lookK, lookK]
    by_cases h : k = j
    · rw [if_pos h, if_pos h.symm]
    · rw [if_neg h, if_neg (fun e => h e.symm)]; rfl
  | p :: L => by
    rw [setK]
    by_cases hp : p.1 = k
    · rw [if_pos hp, lookK, lookK]
      by_cases h : k = j
      · rw [if_pos h, if_pos h.symm]
      · rw [if_neg h, if_neg (fun e => h e.symm), if_neg (by rw [hp]; exact h)]
    · rw [if_neg hp, lookK, lookK, lookK_setK]
      by_cases h : p.1 = j
      · rw [if_pos h, if_pos h, if_neg (by rw [← h]; exact hp)]
      · rw [if_neg h, if_neg h]
/-- a value is laid under a key, whether it was there or not -/
theorem MapL.set (K : KeyT P kt kv) {mt et : TypeId} (hu : P.underlying mt = some (.map kt et)) (h : MapL kv w r L) (k : α) (v : Value) :
    ∃ w', (Instr.mapUpdate mt (.map (some r)) (kv k) v).run P w = .ok () w' ∧ MapL kv w' r (setK k v L) ∧ Keeps (fun x => x = r) w w' := by
  by_cases hh : ∀ p ∈ L, p.1 ≠ k
  · obtain ⟨w', h1, h2, h3⟩ := h.update K hu v hh
    exact ⟨w', h1, by rw [setK_no hh]; exact h2, h3⟩
  · obtain ⟨E, c, h1, rfl⟩ := h
    have hex : ∃ e ∈ E, e.1 = k := Classical.byContradiction fun hn => hh fun p hp e => by
      obtain ⟨x, hx, rfl⟩ := List.mem_map.1 hp
      exact hn ⟨x, hx, e⟩
    obtain ⟨E1, u, b, E2, rfl, n1, n2⟩ := split_at hex h1.keys
    have hi : (((E1 ++ (k, u, b) :: E2).map (toE kv)).toArray)[E1.length]? = some (toE kv (k, u, b)) := by simp
    have hm : ((E1 ++ (k, u, b) :: E2).map (toE kv)).toArray.modify E1.length (fun e => { e with key := kv k, val := v }) = ((E1 ++ (k, v, b) :: E2).map (toE kv)).toArray := by
      apply Array.ext_getElem?
      intro i
      rw [Array.getElem?_modify]
      split
      · rename_i he; subst he; simp [toE]
      · rename_i he
        simp only [List.getElem?_toArray, List.map_append, List.map_cons, List.getElem?_append, List.length_map]
        split
        · rfl
        · rcases Nat.lt_or_ge E1.length i with hlt | hge
          · rw [show i - E1.length = (i - E1.length - 1) + 1 by omega]; rfl
          · omega
    have hb : ∀ e ∈ E1 ++ (k, v, b) :: E2, e.2.2 < c := fun e he => by
      rcases List.mem_append.1 he with he | he
      · exact h1.born e (by simp [he])
      · rcases List.mem_cons.1 he with rfl | he
        · exact h1.born (k, u, b) (by simp)
        · exact h1.born e (by simp [he])
    refine ⟨setM w r ((E1 ++ (k, v, b) :: E2).map (toE kv)).toArray c, ?_, ⟨_, c, set_mapE h1 hb (by have := h1.stamps; simpa using this) (by have := h1.keys; simpa using this), ?_⟩, setM_keeps _ _ _ _⟩
    · simp only [Instr.mapUpdate, Sem.run_bind, run_underlying hu, MapKept.run_getObj_map h1.heap, Result.andThen, K.chk, K.find, findA_at n1, Nat.zero_add, hi, Option.map_some, Option.getD_some, toE, K.stay]
      rw [MapKept.run_setObj_map _ h1.heap]
      rw [hm]
      rfl
    · unfold kvs
      rw [List.map_append, List.map_cons, List.map_append, List.map_cons, setK_at]
      intro p hp; obtain ⟨e, he, rfl⟩ := List.mem_map.1 hp; exact n1 e he
end
section
variable {β : Type} {P : Program} {T : TypeId} {size : Nat} {f : β → List Value} {w w' : World} {r : Nat} {M : List (SE β)}
/-- the list under a number -/
def valA (k : Nat) : List (Nat × List β) → List β
  | [] => []
  | e :: L => if e.1 = k then e.2 else valA k L
theorem valA_add {p : β} {c k : Nat} : ∀ {C : List (Nat × List β)}, valA k (addC p C c) = if k = c then valA k C ++ [p] else valA k C
  | [] => by
    rw [addC, valA, valA, valA]
    by_cases h : c = k
    · rw [if_pos h, if_pos h.symm]; rfl
    · rw [if_neg h, if_neg (fun e => h e.symm)]
  | e :: L => by
    rw [addC]
    by_cases hc : e.1 = c
    · rw [if_pos hc, valA, valA]
      by_cases h : c = k
      · rw [if_pos h, if_pos h.symm, if_pos (hc.trans h)]
      · rw [if_neg h, if_neg (fun e => h e.symm), if_neg (by rw [hc]; exact h)]
    · rw [if_neg hc, valA, valA, valA_add]
      by_cases h : e.1 = k
      · rw [if_pos h, if_pos h, if_neg (by rw [← h]; exact hc)]
      · rw [if_neg h, if_neg h]
/-- a slice that reads as a list, outside of block r -/
def Rd (size : Nat) (f : β → List Value) (w : World) (r : Nat) (v : Value) (L : List β) : Prop :=
  ∃ a c, v = .slice a L.length c ∧ L.length ≤ c ∧ ∀ (i : Nat) p, L[i]? = some p → ∃ g off, a = some ⟨g, off, none⟩ ∧ g ≠ r ∧ ∀ (j : Nat) u, (f p)[j]? = some u → w.cell? ⟨g, off + i * size + j, none⟩ = some u
theorem Rd.keeps {S : Nat → Prop} {v : Value} {L : List β} (h : Rd size f w r v L) (hk : Keeps S w w') (hS : ∀ k, k ≠ r → ¬ S k) : Rd size f w' r v L := by
  obtain ⟨a, c, h1, h2, h3⟩ := h
  refine ⟨a, c, h1, h2, fun i p hp => ?_⟩
  obtain ⟨g, off, e1, e2, e3⟩ := h3 i p hp
  exact ⟨g, off, e1, e2, fun j u hj => hk.cell (e3 j u hj) (hS g e2)⟩
theorem Rd.nil (w : World) (r : Nat) : Rd size f w r (.slice none 0 0) ([] : List β) := ⟨none, 0, rfl, Nat.le_refl _, fun i p hp => by simp at hp⟩
/-- the map as what stands ahead of each cursor -/
def RdM (size : Nat) (f : β → List Value) (w : World) (r : Nat) (st : Nat → List β) : Prop := ∃ L, MapL kid w r L ∧ ∀ k, Rd size f w r ((lookK k L).getD (.slice none 0 0)) (st k)
theorem RdM.kd {st : Nat → List β} (h : RdM size f w r st) (hk : Keeps (fun _ => False) w w') : RdM size f w' r st := by
  obtain ⟨L, h1, h2⟩ := h
  exact ⟨L, h1.keeps hk (fun h => h), fun k => (h2 k).keeps hk (fun _ _ h => h)⟩
theorem RdM.lt {st : Nat → List β} (h : RdM size f w r st) : r < w.heap.size := by obtain ⟨L, h1, _⟩ := h; exact h1.lt
theorem SlM.rd (h : SlM T size f w r M) (hlen : ∀ x, (f x).length = size) : RdM size f w r (fun k => valA k (viewE M)) := by
  refine ⟨kvE M, h.map, fun k => ?_⟩
  rcases h.at_ k with ⟨h1, h2⟩ | ⟨M1, e, M2, hM, hk, h1, _, h2⟩
  · rw [h2]
    have : valA k (viewE M) = [] := by
      clear h h2
      induction M with
      | nil => rfl
      | cons e M ih =>
        show valA k ((e.c, e.ids) :: viewE M) = []
        rw [valA, if_neg (h1 e (by simp)), ih (fun x hx => h1 x (by simp [hx]))]
    show Rd size f w r _ (valA k (viewE M))
    rw [this]; exact Rd.nil w r
  · rw [h2]
    have hv : valA k (viewE M) = e.ids := by
      rw [hM]
      clear h h2 hM
      induction M1 with
      | nil => show valA k ((e.c, e.ids) :: viewE M2) = e.ids; rw [valA, if_pos hk]
      | cons x M1 ih =>
        show valA k ((x.c, x.ids) :: viewE (M1 ++ e :: M2)) = e.ids
        rw [valA, if_neg (h1 x (by simp)), ih (fun y hy => h1 y (by simp [hy]))]
    show Rd size f w r _ (valA k (viewE M))
    rw [hv]
    have he : e ∈ M := by rw [hM]; simp
    have ho := h.own e he
    have hne := h.own_ne ⟨e, he, rfl⟩
    have hcap : e.ids.length ≤ e.cap := by
      rcases ho.2 with ⟨e0, e1⟩ | ⟨g, cap, cur, e0, _, _, hc, _⟩
      · simp [SE.sl] at e0
      · simp [SE.sl] at e0; omega
    refine ⟨_, _, rfl, hcap, fun i p hp => ⟨e.g, 0, rfl, hne, fun j u hj => ?_⟩⟩
    have hj5 : j < size := by have := (List.getElem?_eq_some_iff.1 hj).1; rw [hlen] at this; exact this
    have hfc := flat_cell (f := f) (fun x => hlen x) e.ids i j hj5 p hp
    have hc := ho.cells (g := e.g) (by rfl) (i * size + j) u (by rw [hfc, hj])
    rw [Addr.add_mid, Nat.zero_add] at hc
    rw [Nat.zero_add]; exact hc
/-- the cursor of one number goes on -/
theorem RdM.next {mt et : TypeId} (K : KeyT P 26 kid) (hu : P.underlying mt = some (.map 26 et)) {st : Nat → List β} (h : RdM size f w r st) (k : Nat) {v : Value} {t : List β} (hv : Rd size f w r v t) :
    ∃ w', (Instr.mapUpdate mt (.map (some r)) (kid k) v).run P w = .ok () w' ∧ RdM size f w' r (fun j => if j = k then t else st j) ∧ Keeps (fun x => x = r) w w' := by
  obtain ⟨L, h1, h2⟩ := h
  obtain ⟨w', g1, g2, g3⟩ := h1.set K hu k v
  refine ⟨w', g1, ⟨_, g2, fun j => ?_⟩, g3⟩
  show Rd size f w' r _ (if j = k then t else st j)
  rw [lookK_setK]
  by_cases hj : j = k
  · rw [if_pos hj, if_pos hj]; exact hv.keeps g3 (fun _ h => h)
  · rw [if_neg hj, if_neg hj]; exact (h2 j).keeps g3 (fun _ h => h)
/-- behind the first element -/
theorem Rd.tail {g off c n : Nat} {p : β} {L : List β} (h : Rd size f w r (.slice (some ⟨g, off, none⟩) n c) (p :: L)) : Rd size f w r (.slice (some ⟨g, off + size, none⟩) L.length (c - 1)) L ∧ (c = 1 → L = []) := by
  obtain ⟨a, c', e1, h2, h3⟩ := h
  simp only [Value.slice.injEq] at e1
  obtain ⟨rfl, rfl, rfl⟩ := e1
  simp only [List.length_cons] at h2
  refine ⟨⟨_, _, rfl, by omega, fun i q hq => ?_⟩, fun hc => List.eq_nil_of_length_eq_zero (by omega)⟩
  obtain ⟨g', off', e2, e3, e4⟩ := h3 (i + 1) q (by simpa using hq)
  cases e2
  refine ⟨g, off + size, rfl, e3, fun j u hj => ?_⟩
  have := e4 j u hj
  rwa [show off + (i + 1) * size + j = off + size + i * size + j by rw [Nat.add_mul]; omega] at this
end
end Gm
end Go.Proofs.YtdaindihobfokaaGreatDoor
namespace Go.Proofs.YtdaindihobfokaaGreatDoor
open Go.RowKit Go.Shelf
set_option linter.unusedVariables false
set_option linter.unusedSimpArgs false
set_option linter.unusedSectionVars false
namespace Gm
open Mem
section
variable {β : Type} {P : Program} {T : TypeId} {size : Nat} {f : β → List Value} {w w' : World} {r : Nat} {M : List (SE β)}
theorem SlM.add {MT et : TypeId} (K : KeyT P 26 kid) (hu : P.underlying MT = some (.map 26 et)) (h : SlM T size f w r M) (c : Nat) (p : β) : ∃ v V, (lookK c (kvE M)).getD (.slice none 0 0) = v ∧ V = valA c (viewE M) ∧ w.ownsRow 0 T size v V.length (V.flatMap f) ∧ (∀ k, v.ownBlock = some k → Own M k) ∧
    ∀ w2 v', w.grownBy w2 v.ownBlock → w2.ownsRow 0 T size v' (V.length + 1) (V.flatMap f ++ f p) → (v'.ownBlock = v.ownBlock ∨ v'.ownBlock = some w.heap.size) →
      ∃ w3 M', (Instr.mapUpdate MT (.map (some r)) (kid c) v').run P w2 = .ok () w3 ∧ Keeps (fun k => k = r) w2 w3 ∧ SlM T size f w3 r M' ∧ viewE M' = addC p (viewE M) c ∧ ∀ k, Own M' k → Own M k ∨ k = w.heap.size := by
  have hr1 : r < w.heap.size := h.lt
  have own1 : ∀ e ∈ M, w.ownsRow 0 T size e.sl e.ids.length (e.ids.flatMap f) := h.own
  have fin : ∀ (v : Value) (V : List β) (M1 M2 : List (SE β)) (w2 : World) (v' : Value), (∀ k, v.ownBlock = some k → Own M k) → (∀ x ∈ M1 ++ M2, x ∈ M ∧ (∀ k, v.ownBlock = some k → x.g ≠ k)) → (∀ x ∈ M1, x.c ≠ c) → ((M1 ++ M2).map (·.g)).Nodup →
      (∀ u, setK c u (kvE M) = kvE M1 ++ (c, u) :: kvE M2) → (addC p (viewE M) c = viewE M1 ++ (c, V ++ [p]) :: viewE M2) →
      w.grownBy w2 v.ownBlock → w2.ownsRow 0 T size v' (V.length + 1) (V.flatMap f ++ f p) → (v'.ownBlock = v.ownBlock ∨ v'.ownBlock = some w.heap.size) →
      ∃ w3 M', (Instr.mapUpdate MT (.map (some r)) (kid c) v').run P w2 = .ok () w3 ∧ Keeps (fun k => k = r) w2 w3 ∧ SlM T size f w3 r M' ∧ viewE M' = addC p (viewE M) c ∧ ∀ k, Own M' k → Own M k ∨ k = w.heap.size := by
    intro v V M1 M2 w2 v' hvo hM hM1 hnd hset hadd hgrow hown hat
    obtain ⟨g, cap, rfl⟩ := ownsRow_succ hown
    have hk2 : Keeps (fun k => some k = v.ownBlock) w w2 := Keeps.of_grown hgrow
    have hrv : ¬ (some r = v.ownBlock) := fun e => h.own_ne (hvo r e.symm) rfl
    obtain ⟨w3, hrun3, hM3, hk3⟩ := (h.map.keeps hk2 hrv).set K hu c (.slice (some ⟨g, 0, none⟩) (V.length + 1) cap)
    have hgv : Own M g ∨ g = w.heap.size := by
      rcases hat with e | e
      · exact .inl (hvo g (by rw [← e]; rfl))
      · exact .inr (by simpa [Value.ownBlock] using e)
    have hgr : g ≠ r := by
      rcases hgv with h1 | h1
      · exact h.own_ne h1
      · omega
    refine ⟨w3, M1 ++ ⟨c, V ++ [p], g, cap⟩ :: M2, hrun3, hk3, ⟨?_, ?_, ?_⟩, ?_, ?_⟩
    · rw [hset] at hM3
      simpa [kvE, SE.sl] using hM3
    · have old : ∀ x ∈ M1 ++ M2, w3.ownsRow 0 T size x.sl x.ids.length (x.ids.flatMap f) := fun x hx => by
        obtain ⟨h1, h2⟩ := hM x hx
        refine owns_keeps (owns_keeps (own1 x h1) hk2 (fun b hb e1 => ?_)) hk3 (fun b hb e1 => h.own_ne ⟨x, h1, rfl⟩ (by simpa [SE.sl, Value.ownBlock, e1] using hb))
        exact h2 b e1.symm (by simpa [SE.sl, Value.ownBlock] using hb)
      intro x hx
      rcases List.mem_append.1 hx with hx | hx
      · exact old x (by simp [hx])
      · rcases List.mem_cons.1 hx with rfl | hx
        · have h3 := owns_keeps hown hk3 (fun b hb e1 => hgr (by simp [Value.ownBlock] at hb; omega))
          simpa [SE.sl] using h3
        · exact old x (by simp [hx])
    · have hng : ∀ x ∈ M1 ++ M2, x.g ≠ g := fun x hx e1 => by
        obtain ⟨h1, h2⟩ := hM x hx
        rcases hat with e | e
        · exact h2 g (by rw [← e]; rfl) e1
        · have h3 : g = w.heap.size := by simpa [Value.ownBlock] using e
          have h4 := h.own_lt ⟨x, h1, rfl⟩
          omega
      have hp : ((M1 ++ ⟨c, V ++ [p], g, cap⟩ :: M2).map (·.g)).Perm (g :: (M1 ++ M2).map (·.g)) := by
        rw [List.map_append, List.map_cons, List.map_append]
        exact List.perm_middle
      rw [hp.nodup_iff, List.nodup_cons]
      refine ⟨fun hm => ?_, hnd⟩
      obtain ⟨x, hx, e1⟩ := List.mem_map.1 hm
      exact hng x hx e1
    · rw [hadd]; simp [viewE]
    · rintro k ⟨x, hx, rfl⟩
      rcases List.mem_append.1 hx with hx | hx
      · exact .inl ⟨x, (hM x (by simp [hx])).1, rfl⟩
      · rcases List.mem_cons.1 hx with rfl | hx
        · exact hgv
        · exact .inl ⟨x, (hM x (by simp [hx])).1, rfl⟩
  rcases h.at_ c with ⟨hno, hl⟩ | ⟨M1, e, M2, hMe, hec, h1, h2, hl⟩
  · rw [hl]
    have hva : ∀ (X : List (SE β)), (∀ e ∈ X, e.c ≠ c) → valA c (viewE X) = [] := fun X hX => by
      induction X with
      | nil => rfl
      | cons x X ih =>
        show valA c ((x.c, x.ids) :: viewE X) = []
        rw [valA, if_neg (hX x (by simp)), ih (fun y hy => hX y (by simp [hy]))]
    refine ⟨.slice none 0 0, [], rfl, (hva M hno).symm, World.ownsRow_nil _ _ _ _, fun k hk => by simp [Value.ownBlock] at hk, fun w2 v' hg ho ha => ?_⟩
    refine fin (.slice none 0 0) [] M [] w2 v' (fun k hk => by simp [Value.ownBlock] at hk) (fun x hx => ⟨by simpa using hx, fun k hk => by simp [Value.ownBlock] at hk⟩) hno (by simpa using h.apart) (fun u => ?_) ?_ hg ho ha
    · rw [setK_no]
      · simp [kvE]
      · intro q hp; obtain ⟨x, hx, rfl⟩ := List.mem_map.1 hp; exact hno x hx
    · rw [addC_no]
      · simp [viewE]
      · intro q hp; obtain ⟨x, hx, rfl⟩ := List.mem_map.1 hp; exact hno x hx
  · rw [hl]
    have hva : ∀ (X : List (SE β)), (∀ e ∈ X, e.c ≠ c) → valA c (viewE (X ++ e :: M2)) = e.ids := fun X hX => by
      induction X with
      | nil => show valA c ((e.c, e.ids) :: viewE M2) = e.ids; rw [valA, if_pos hec]
      | cons x X ih =>
        show valA c ((x.c, x.ids) :: viewE (X ++ e :: M2)) = e.ids
        rw [valA, if_neg (hX x (by simp)), ih (fun y hy => hX y (by simp [hy]))]
    have heM : e ∈ M := by rw [hMe]; simp
    have hap := h.apart
    rw [hMe, List.map_append, List.map_cons, List.nodup_append] at hap
    have hnd : ((M1 ++ M2).map (·.g)).Nodup := by
      have := h.apart
      rw [hMe] at this
      exact this.sublist ((List.Sublist.append (List.Sublist.refl _) (List.sublist_cons_self _ _)).map _)
    refine ⟨e.sl, e.ids, rfl, by rw [hMe]; exact (hva M1 h1).symm, own1 e heM, fun k hk => ⟨e, heM, by simpa [SE.sl, Value.ownBlock] using hk⟩, fun w2 v' hg ho ha => ?_⟩
    refine fin e.sl e.ids M1 M2 w2 v' (fun k hk => ⟨e, heM, by simpa [SE.sl, Value.ownBlock] using hk⟩) (fun x hx => ⟨?_, fun k hk => ?_⟩) h1 hnd (fun u => ?_) ?_ hg ho ha
    · rw [hMe]
      rcases List.mem_append.1 hx with hx | hx <;> simp [hx]
    · have hk' : e.g = k := by simpa [SE.sl, Value.ownBlock] using hk
      subst hk'
      rcases List.mem_append.1 hx with hx | hx
      · exact hap.2.2 x.g (List.mem_map.2 ⟨x, hx, rfl⟩) e.g (by simp)
      · intro e1
        exact (List.nodup_cons.1 hap.2.1).1 (by rw [← e1]; exact List.mem_map.2 ⟨x, hx, rfl⟩)
    · rw [hMe]
      unfold kvE
      rw [List.map_append, List.map_cons, hec, setK_at]
      intro q hp; obtain ⟨x, hx, rfl⟩ := List.mem_map.1 hp; exact h1 x hx
    · rw [hMe]
      unfold viewE
      rw [List.map_append, List.map_cons, hec, addC_at]
      intro q hp; obtain ⟨x, hx, rfl⟩ := List.mem_map.1 hp; exact h1 x hx
end
end Gm
end Go.Proofs.YtdaindihobfokaaGreatDoor
