/-
Grow: a slice in a variable that a loop's body appends to.
GsG: a map of cells, each with a list of its own.
GsP: plain: cells, boxes, lines of a lattice; no program in sight.
-/
import Derived.Test.YtdbpfbokfmpgcaaZaaMemIterTreeAHeldGrA
import Derived.Maps.AppendAt
import Derived.Maps.OwnIn
import Derived.Test.YtdbpfbokfmpgcaaZadGsM
import Derived.Test.YtdbpfbokfmpgcaaZakSoM
set_option linter.ambiguousOpen false
namespace Go.Proofs.Ytdbpfbokfmpgcaa
open Go.RowKit
set_option linter.unusedVariables false
namespace Mem
theorem oper_append_own {F : Fence} {nF : Nat} {P : Program} {Q : Exit → Act → World → Prop} {K : Act → World → Prop} {w : World} {o : Oper} {a : Act} (s x : Operand) (t : TypeId)
    (ho : o.op = .call { callee := .builtin .append, args := #[s, x], argTypes := #[t, t] })
    (base : Nat) (e : TypeId) (i : TypeInfo) (z : Value) (size bytes : Nat) (ht : P.underlying t = some (.slice e)) (hi : P.info? e = some i) (hz : i.zero = some z)
    (hsize : i.size = size) (hby : i.bytes = bytes) (hzs : z.cells.size = size) (hsz : 0 < size)
    (v : Value) (n : Nat) (xs : List Value) (hs : a.eval s = v) (hown : w.ownsRow base e size v n xs)
    (ad : Addr) (m c : Nat) (news : List Value) (hx : a.eval x = .slice (some ad) m c) (hl : news.length = m * size) (hnews : ∀ j u, news[j]? = some u → w.cell? (ad.add j) = some u) (h1 : ∀ u ∈ news, u.oneCell' = true)
    (h63 : n + m ≤ maxLen) (hbytes : (n + m) * bytes ≤ 140737488355328) (hbase : base ≤ w.heap.size)
    (h : ∀ v' w', w'.ownsRow base e size v' (n + m) (xs ++ news) → w.grownBy w' v.ownBlock → (v'.ownBlock = v.ownBlock ∨ v'.ownBlock = some w.heap.size) → K (a.put o.dst v') w') :
    o.wpIn F nF P a w K Q := by
  obtain ⟨v', w', hr, h2, h3, h4, h5⟩ := run_append_own_at (P := P) w base t o.type e i z size bytes ht hi hz hsize hby hzs hsz v n xs hown ad m c news hl hnews h1 h63 hbytes hbase
  unfold Oper.wpIn
  refine ⟨by simp [Oper.about, ho, resolve, Target.leads, Sem.run_pure], ?_⟩
  rw [Oper.semAt_plain F _ _ (by rw [ho]; intro c hc'; cases hc')]
  simp [execOp, ho, resolve, invoke, builtin, hs, hx, hr, Result.andThen]
  exact h v' w' h2 h3 h5
/-- a slice in the variable B5: n elements, all cells xs; what was in the world w is as it was -/
def RowI (te ts : TypeId) (size : Nat) (w : World) (B5 n : Nat) (xs : List Value) (S : Nat → Prop) (W : World) : Prop :=
  ∃ a c, Blk W B5 ts [.slice a n c] ∧ W.ownsRow w.heap.size te size (.slice a n c) n xs ∧ Below w.heap.size w W ∧ (∀ k, S k ↔ k = B5 ∨ (Value.slice a n c).ownBlock = some k)
theorem RowI.keeps {te ts : TypeId} {size : Nat} {w : World} {B5 n : Nat} {xs : List Value} {S T : Nat → Prop} {W W' : World} (h : RowI te ts size w B5 n xs S W) (hk : Keeps T W W') (hd : ∀ k, S k → ¬ T k) (ht : ∀ k, T k → w.heap.size ≤ k) : RowI te ts size w B5 n xs S W' := by
  obtain ⟨a, c, h1, h2, h3, h4⟩ := h
  refine ⟨a, c, h1.keeps hk (hd _ ((h4 _).2 (.inl rfl))), owns_keeps h2 hk (fun k hk' => hd _ ((h4 _).2 (.inr hk'))), h3.trans ⟨hk.os, hk.tape, hk.output, hk.size, fun k hk' => ?_⟩, h4⟩
  exact hk.block k (by have := h3.size; omega) (fun h => by have := ht _ h; omega)
theorem RowI.stab {α : Type} {te ts : TypeId} {size : Nat} {w : World} {B5 b : Nat} (n : List α → Nat) (xs : List α → List Value) (hb : w.heap.size ≤ b) : Stab b (fun pre S W => RowI te ts size w B5 (n pre) (xs pre) S W) :=
  fun s S T W W' hj hi hk hd ht => RowI.keeps hj hk hd (fun k h => Nat.le_trans hb (ht k h))
theorem RowI.grow {te ts : TypeId} (hne : te ≠ ts) {size : Nat} {w : World} {B5 n : Nat} {xs news : List Value} {S : Nat → Prop} {W W1 w1 : World} {a : Option Addr} {c : Nat} {v' : Value}
    (h1 : Blk W B5 ts [.slice a n c]) (h2 : W.ownsRow w.heap.size te size (.slice a n c) n xs) (h3 : Below w.heap.size w W) (h4 : ∀ k, S k ↔ k = B5 ∨ (Value.slice a n c).ownBlock = some k)
    (hk : Keeps (fun _ => False) W W1) (hown : w1.ownsRow w.heap.size te size v' (n + 1) (xs ++ news)) (hgrow : W1.grownBy w1 (Value.slice a n c).ownBlock) (hat : v'.ownBlock = (Value.slice a n c).ownBlock ∨ v'.ownBlock = some W1.heap.size) (hb5 : w.heap.size ≤ B5) :
    Blk w1 B5 ts [.slice a n c] ∧ ∃ S', Foot S S' W (w1.setCell ⟨B5, 0, none⟩ v') ∧ Inb S' (w1.setCell ⟨B5, 0, none⟩ v') ∧ RowI te ts size w B5 (n + 1) (xs ++ news) S' (w1.setCell ⟨B5, 0, none⟩ v') := by
  obtain ⟨g, cap, rfl⟩ := ownsRow_succ hown
  have h51 : Blk w1 B5 ts [.slice a n c] := (h1.keeps hk (fun h => h)).grown hgrow (own_ne h2 h1 hne)
  have hn5 : some B5 ≠ (Value.slice (some ⟨g, 0, none⟩) (n + 1) cap).ownBlock := own_ne hown h51 hne
  have hkk : Keeps S W w1 := (hk.mono (fun _ _ h => h.elim)).grown hgrow (fun k hk e => (h4 k).2 (.inr e))
  have hgl : g < w1.heap.size := (hown.lt g rfl).2
  refine ⟨h51, fun k => k = B5 ∨ k = g, ⟨hkk.setCell (p := ⟨B5, 0, none⟩) (fun _ => (h4 B5).2 (.inl rfl)) _, fun k h => ?_⟩, ?_, some ⟨g, 0, none⟩, cap, ?_, ?_, ?_, ?_⟩
  · rcases h with rfl | rfl
    · exact .inl ((h4 _).2 (.inl rfl))
    · rcases hat with h | h
      · exact .inl ((h4 _).2 (.inr h.symm))
      · simp [Value.ownBlock] at h
        have := hk.size
        exact .inr (by omega)
  · intro k h
    have := h51.lt
    rcases h with rfl | rfl <;> simpa [World.setCell]
  · simpa using h51.set_ 0 (.slice (some ⟨g, 0, none⟩) (n + 1) cap)
  · exact owns_setCell hown (p := ⟨B5, 0, none⟩) hn5.symm _
  · refine Below.setCell ?_ (p := ⟨B5, 0, none⟩) hb5 _
    exact (h3.trans (hk.below h3.size (fun _ _ h => h))).grown hgrow (by have := h3.size; have := hk.size; omega) (fun k hk => (h2.lt k hk).1)
  · intro k
    simp [Value.ownBlock, eq_comm]
/-- the bodies of a code's ranges over functions, in the text's order. -/
def rbods : Code → List Code
  | .rangeFunc _ _ a b => b :: (rbods a ++ rbods b)
  | .loop c => rbods c
  | .seq a b => rbods a ++ rbods b
  | .block _ c => rbods c
  | .scope c => rbods c
  | .cond _ a b => rbods a ++ rbods b
  | _ => []
end Mem
end Go.Proofs.Ytdbpfbokfmpgcaa
namespace Go.Proofs.Ytdbpfbokfmpgcaa
open Go.RowKit Go.Shelf
set_option linter.ambiguousOpen false
set_option linter.unusedVariables false
set_option linter.unusedSimpArgs false
attribute [local go_sem] Oper.semAt_some
namespace Gs
open Mem
open So (vals)
/-- a cell's list: the cell, the numbers, where they lie, how many fit -/
structure CE where
  c : Int × Int
  ids : List Nat
  g : Nat
  cap : Nat
def CE.sl (e : CE) : Value := .slice (some ⟨e.g, 0, none⟩) e.ids.length e.cap
def kvE (M : List CE) : List ((Int × Int) × Value) := M.map fun e => (e.c, e.sl)
def viewE (M : List CE) : List ((Int × Int) × List Nat) := M.map fun e => (e.c, e.ids)
def Own (M : List CE) (k : Nat) : Prop := ∃ e ∈ M, e.g = k
structure CellsM (w : World) (r : Nat) (M : List CE) : Prop where
  map : MapL kcl w r (kvE M)
  own : ∀ e ∈ M, w.ownsRow 0 31 1 e.sl e.ids.length (vals e.ids)
  apart : (M.map (·.g)).Nodup
variable {w w' : World} {r : Nat} {M : List CE}
theorem CellsM.lt (h : CellsM w r M) : r < w.heap.size := h.map.lt
theorem CellsM.own_lt (h : CellsM w r M) {k : Nat} (hk : Own M k) : k < w.heap.size := by
  obtain ⟨e, he, rfl⟩ := hk
  exact ((h.own e he).lt e.g rfl).2
theorem CellsM.own_ne (h : CellsM w r M) {k : Nat} (hk : Own M k) : k ≠ r := by
  obtain ⟨e, he, rfl⟩ := hk
  intro e1
  exact (h.map.own_ne (h.own e he)) (by simp [CE.sl, Value.ownBlock, e1])
theorem CellsM.keeps {S : Nat → Prop} (h : CellsM w r M) (hk : Keeps S w w') (hr : ¬ S r) (ho : ∀ k, Own M k → ¬ S k) : CellsM w' r M :=
  ⟨h.map.keeps hk hr, fun e he => owns_keeps (h.own e he) hk (fun b hb => ho b ⟨e, he, by simpa [CE.sl, Value.ownBlock] using hb⟩), h.apart⟩
theorem CellsM.kd (h : CellsM w r M) (hk : Keeps (fun _ => False) w w') : CellsM w' r M := h.keeps hk (fun h => h) (fun _ _ h => h)
theorem CellsM.new (w : World) : CellsM (w.alloc (.map #[] 0)) w.heap.size [] := ⟨MapL.new kcl w, by simp, by simp⟩
theorem CellsM.ne (h : CellsM w r M) {b : Nat} {t : TypeId} {cs : List Value} (hb : Blk w b t cs) : b ≠ r := h.map.ne hb
theorem CellsM.ne_own (h : CellsM w r M) {b : Nat} {t : TypeId} {cs : List Value} (hb : Blk w b t cs) (hne : 31 ≠ t) : ¬ Own M b := by
  rintro ⟨e, he, rfl⟩
  exact Mem.own_ne (h.own e he) hb hne (by simp [CE.sl, Value.ownBlock])
/-- the list of a cell in the map: nothing, or the one entry's -/
theorem CellsM.at_ (h : CellsM w r M) (c : Int × Int) : ((∀ e ∈ M, e.c ≠ c) ∧ lookK c (kvE M) = none) ∨ ∃ M1 e M2, M = M1 ++ e :: M2 ∧ e.c = c ∧ (∀ x ∈ M1, x.c ≠ c) ∧ (∀ x ∈ M2, x.c ≠ c) ∧ lookK c (kvE M) = some e.sl := by
  have hn := h.map.nodup
  unfold kvE at hn
  rw [List.map_map] at hn
  clear h
  induction M with
  | nil => exact .inl ⟨by simp, rfl⟩
  | cons e M ih =>
    rw [List.map_cons, List.nodup_cons] at hn
    by_cases he : e.c = c
    · refine .inr ⟨[], e, M, rfl, he, by simp, fun x hx hxe => hn.1 (List.mem_map.2 ⟨x, hx, by simp [hxe, he]⟩), ?_⟩
      simp [kvE, lookK, he]
    · rcases ih hn.2 with ⟨h1, h2⟩ | ⟨M1, x, M2, rfl, h1, h2, h3, h4⟩
      · refine .inl ⟨fun x hx => ?_, ?_⟩
        · rcases List.mem_cons.1 hx with rfl | hx
          · exact he
          · exact h1 x hx
        · show lookK c ((e.c, e.sl) :: kvE M) = none
          rw [lookK, if_neg he, h2]
      · refine .inr ⟨e :: M1, x, M2, rfl, h1, fun y hy => ?_, h3, ?_⟩
        · rcases List.mem_cons.1 hy with rfl | hy
          · exact he
          · exact h2 y hy
        · show lookK c ((e.c, e.sl) :: kvE (M1 ++ x :: M2)) = _
          rw [lookK, if_neg he, h4]
/-- a number more in a cell's list -/
def addC (id : Nat) (C : List ((Int × Int) × List Nat)) (c : Int × Int) : List ((Int × Int) × List Nat) :=
  match C with
  | [] => [(c, [id])]
  | e :: L => if e.1 = c then (c, e.2 ++ [id]) :: L else e :: addC id L c
theorem addC_no {id : Nat} {c : Int × Int} {C : List ((Int × Int) × List Nat)} (h : ∀ e ∈ C, e.1 ≠ c) : addC id C c = C ++ [(c, [id])] := by
  induction C with
  | nil => rfl
  | cons e L ih => rw [addC, if_neg (h e (by simp)), ih (fun x hx => h x (by simp [hx]))]; rfl
theorem addC_at {id : Nat} {c : Int × Int} {V : List Nat} {L1 L2 : List ((Int × Int) × List Nat)} (h : ∀ e ∈ L1, e.1 ≠ c) : addC id (L1 ++ (c, V) :: L2) c = L1 ++ (c, V ++ [id]) :: L2 := by
  induction L1 with
  | nil => simp [addC]
  | cons e L ih => rw [List.cons_append, addC, if_neg (h e (by simp)), ih (fun x hx => h x (by simp [hx]))]; rfl
theorem zvs (W : World) : (zeroValue 41).run Try.prog W = .ok (.slice none 0 0) W := by kernel_rfl
/-- 'm[c] = append(m[c], id)', its three parts -/
theorem CellsM.put (h : CellsM w r M) (c : Int × Int) (id : Nat) : ∃ w1 st v V, (Instr.mapEntry 49 (.map (some r)) (kcl c)).run Try.prog w = .ok (.tuple #[v, .int .i64 ((st : Nat) : Int)]) w1 ∧ Keeps (fun k => k = r) w w1 ∧ w1.ownsRow 0 31 1 v V.length (vals V) ∧ (V = [] ∨ ∃ e ∈ M, e.ids = V) ∧ (∀ k, v.ownBlock = some k → Own M k) ∧
    ∀ w2 v', w1.grownBy w2 v.ownBlock → w2.ownsRow 0 31 1 v' (V.length + 1) (vals V ++ [.int .u32 (id : Int)]) → (v'.ownBlock = v.ownBlock ∨ v'.ownBlock = some w1.heap.size) →
      ∃ w3 M', (Instr.entryStore 49 (.map (some r)) (.int .i64 ((st : Nat) : Int)) v').run Try.prog w2 = .ok () w3 ∧ Keeps (fun k => k = r) w2 w3 ∧ CellsM w3 r M' ∧ viewE M' = addC id (viewE M) c ∧ ∀ k, Own M' k → Own M k ∨ k = w1.heap.size := by
  obtain ⟨w1, st, hrun, hE, hk1⟩ := h.map.entry keycl Try.underlying49 zvs c
  have hr1 : r < w1.heap.size := hE.lt
  have own1 : ∀ e ∈ M, w1.ownsRow 0 31 1 e.sl e.ids.length (vals e.ids) := fun e he => owns_keeps (h.own e he) hk1 (fun b hb e1 => h.own_ne ⟨e, he, rfl⟩ (by simpa [CE.sl, Value.ownBlock, e1] using hb))
  have fin : ∀ (v : Value) (V : List Nat) (M1 M2 : List CE) (w2 : World) (v' : Value), (∀ k, v.ownBlock = some k → Own M k) → (∀ x ∈ M1 ++ M2, x ∈ M ∧ (∀ k, v.ownBlock = some k → x.g ≠ k)) → (∀ x ∈ M1, x.c ≠ c) → ((M1 ++ M2).map (·.g)).Nodup →
      (∀ u, setK c u (kvE M) = kvE M1 ++ (c, u) :: kvE M2) → (addC id (viewE M) c = viewE M1 ++ (c, V ++ [id]) :: viewE M2) →
      w1.grownBy w2 v.ownBlock → w2.ownsRow 0 31 1 v' (V.length + 1) (vals V ++ [.int .u32 (id : Int)]) → (v'.ownBlock = v.ownBlock ∨ v'.ownBlock = some w1.heap.size) →
      ∃ w3 M', (Instr.entryStore 49 (.map (some r)) (.int .i64 ((st : Nat) : Int)) v').run Try.prog w2 = .ok () w3 ∧ Keeps (fun k => k = r) w2 w3 ∧ CellsM w3 r M' ∧ viewE M' = addC id (viewE M) c ∧ ∀ k, Own M' k → Own M k ∨ k = w1.heap.size := by
    intro v V M1 M2 w2 v' hvo hM hM1 hnd hset hadd hgrow hown hat
    obtain ⟨g, cap, rfl⟩ := ownsRow_succ hown
    have hk2 : Keeps (fun k => some k = v.ownBlock) w1 w2 := Keeps.of_grown hgrow
    have hrv : ¬ (some r = v.ownBlock) := fun e => h.own_ne (hvo r e.symm) rfl
    obtain ⟨w3, hrun3, hM3, hk3⟩ := (hE.keeps hk2 hrv).store (mt := 49) (.slice (some ⟨g, 0, none⟩) (V.length + 1) cap)
    have hgv : Own M g ∨ g = w1.heap.size := by
      rcases hat with e | e
      · exact .inl (hvo g (by rw [← e]; rfl))
      · exact .inr (by simpa [Value.ownBlock] using e)
    have hgr : g ≠ r := by
      rcases hgv with h1 | h1
      · exact h.own_ne h1
      · omega
    refine ⟨w3, M1 ++ ⟨c, V ++ [id], g, cap⟩ :: M2, hrun3, hk3, ⟨?_, ?_, ?_⟩, ?_, ?_⟩
    · rw [hset] at hM3
      simpa [kvE, CE.sl] using hM3
    · have old : ∀ x ∈ M1 ++ M2, w3.ownsRow 0 31 1 x.sl x.ids.length (vals x.ids) := fun x hx => by
        obtain ⟨h1, h2⟩ := hM x hx
        refine owns_keeps (owns_keeps (own1 x h1) hk2 (fun b hb e1 => ?_)) hk3 (fun b hb e1 => h.own_ne ⟨x, h1, rfl⟩ (by simpa [CE.sl, Value.ownBlock, e1] using hb))
        exact h2 b e1.symm (by simpa [CE.sl, Value.ownBlock] using hb)
      intro x hx
      rcases List.mem_append.1 hx with hx | hx
      · exact old x (by simp [hx])
      · rcases List.mem_cons.1 hx with rfl | hx
        · have h3 := owns_keeps hown hk3 (fun b hb e1 => hgr (by simp [Value.ownBlock] at hb; omega))
          simpa [CE.sl, vals] using h3
        · exact old x (by simp [hx])
    · have hng : ∀ x ∈ M1 ++ M2, x.g ≠ g := fun x hx e1 => by
        obtain ⟨h1, h2⟩ := hM x hx
        rcases hat with e | e
        · exact h2 g (by rw [← e]; rfl) e1
        · have h3 : g = w1.heap.size := by simpa [Value.ownBlock] using e
          have h4 := h.own_lt ⟨x, h1, rfl⟩
          have h5 := hk1.size
          omega
      have hp : ((M1 ++ ⟨c, V ++ [id], g, cap⟩ :: M2).map (·.g)).Perm (g :: (M1 ++ M2).map (·.g)) := by
        rw [List.map_append, List.map_cons, List.map_append]
        exact List.perm_middle
      rw [hp.nodup_iff, List.nodup_cons]
      refine ⟨fun hm => ?_, hnd⟩
      obtain ⟨x, hx, e1⟩ := List.mem_map.1 hm
      exact hng x hx e1
    · rw [hadd]; simp [viewE]
    · rintro k ⟨x, hx, rfl⟩
      rcases List.mem_append.1 hx with hx | hx
      · exact .inl ⟨x, (hM x (by simp [hx])).1, rfl⟩
      · rcases List.mem_cons.1 hx with rfl | hx
        · exact hgv
        · exact .inl ⟨x, (hM x (by simp [hx])).1, rfl⟩
  rcases h.at_ c with ⟨hno, hl⟩ | ⟨M1, e, M2, hMe, hec, h1, h2, hl⟩
  · rw [hl] at hrun
    refine ⟨w1, st, .slice none 0 0, [], hrun, hk1, World.ownsRow_nil _ _ _ _, .inl rfl, fun k hk => by simp [Value.ownBlock] at hk, fun w2 v' hg ho ha => ?_⟩
    refine fin (.slice none 0 0) [] M [] w2 v' (fun k hk => by simp [Value.ownBlock] at hk) (fun x hx => ⟨by simpa using hx, fun k hk => by simp [Value.ownBlock] at hk⟩) hno (by simpa using h.apart) (fun u => ?_) ?_ hg ho ha
    · rw [setK_no]
      · simp [kvE]
      · intro p hp; obtain ⟨x, hx, rfl⟩ := List.mem_map.1 hp; exact hno x hx
    · rw [addC_no]
      · simp [viewE]
      · intro p hp; obtain ⟨x, hx, rfl⟩ := List.mem_map.1 hp; exact hno x hx
  · rw [hl] at hrun
    have heM : e ∈ M := by rw [hMe]; simp
    have hap := h.apart
    rw [hMe, List.map_append, List.map_cons, List.nodup_append] at hap
    have hnd : ((M1 ++ M2).map (·.g)).Nodup := by
      have := h.apart
      rw [hMe] at this
      exact this.sublist ((List.Sublist.append (List.Sublist.refl _) (List.sublist_cons_self _ _)).map _)
    refine ⟨w1, st, e.sl, e.ids, hrun, hk1, own1 e heM, .inr ⟨e, heM, rfl⟩, fun k hk => ⟨e, heM, by simpa [CE.sl, Value.ownBlock] using hk⟩, fun w2 v' hg ho ha => ?_⟩
    refine fin e.sl e.ids M1 M2 w2 v' (fun k hk => ⟨e, heM, by simpa [CE.sl, Value.ownBlock] using hk⟩) (fun x hx => ⟨?_, fun k hk => ?_⟩) h1 hnd (fun u => ?_) ?_ hg ho ha
    · rw [hMe]
      rcases List.mem_append.1 hx with hx | hx <;> simp [hx]
    · have hk' : e.g = k := by simpa [CE.sl, Value.ownBlock] using hk
      subst hk'
      rcases List.mem_append.1 hx with hx | hx
      · exact hap.2.2 x.g (List.mem_map.2 ⟨x, hx, rfl⟩) e.g (by simp)
      · intro e1
        exact (List.nodup_cons.1 hap.2.1).1 (by rw [← e1]; exact List.mem_map.2 ⟨x, hx, rfl⟩)
    · rw [hMe]
      unfold kvE
      rw [List.map_append, List.map_cons, hec, setK_at]
      intro p hp; obtain ⟨x, hx, rfl⟩ := List.mem_map.1 hp; exact h1 x hx
    · rw [hMe]
      unfold viewE
      rw [List.map_append, List.map_cons, hec, addC_at]
      intro p hp; obtain ⟨x, hx, rfl⟩ := List.mem_map.1 hp; exact h1 x hx
end Gs
end Go.Proofs.Ytdbpfbokfmpgcaa
namespace Go.Proofs.Ytdbpfbokfmpgcaa
set_option linter.unusedVariables false
namespace Gs
abbrev Cl := Int × Int
/-- a box: its four numbers -/
structure Bx where
  x0 : Int
  y0 : Int
  x1 : Int
  y1 : Int
  deriving DecidableEq
def B0 : Int := 1073741823
def On (x y : Int) : Prop := -B0 ≤ x ∧ x ≤ B0 ∧ -B0 ≤ y ∧ y ≤ B0
def Size (s : Int) : Prop := 1 ≤ s ∧ s ≤ 2147483648
def Right (b : Bx) : Prop := On b.x0 b.y0 ∧ On b.x1 b.y1 ∧ b.x0 ≤ b.x1 ∧ b.y0 ≤ b.y1
instance (x y : Int) : Decidable (On x y) := by unfold On; infer_instance
instance (s : Int) : Decidable (Size s) := by unfold Size; infer_instance
instance (b : Bx) : Decidable (Right b) := by unfold Right; infer_instance
/-- the cell of a place -/
def cof (s x y : Int) : Cl := (x / s, y / s)
/-- how many cells a right box has a part of -/
def cnt (s : Int) (b : Bx) : Int := (b.x1 / s - b.x0 / s + 1) * (b.y1 / s - b.y0 / s + 1)
def covers (s : Int) (b : Bx) (c : Cl) : Prop := b.x0 / s ≤ c.1 ∧ c.1 ≤ b.x1 / s ∧ b.y0 / s ≤ c.2 ∧ c.2 ≤ b.y1 / s
instance (s : Int) (b : Bx) (c : Cl) : Decidable (covers s b c) := by unfold covers; infer_instance
/-- the numbers from a to b -/
def upto (a b : Int) : List Int := (List.range (b - a + 1).toNat).map fun i : Nat => a + (i : Int)
theorem mem_upto {a b x : Int} : x ∈ upto a b ↔ a ≤ x ∧ x ≤ b := by
  unfold upto
  simp only [List.mem_map, List.mem_range]
  constructor
  · rintro ⟨i, hi, rfl⟩; omega
  · rintro ⟨h1, h2⟩; exact ⟨(x - a).toNat, by omega, by omega⟩
theorem upto_nil {a b : Int} (h : b < a) : upto a b = [] := by
  unfold upto
  rw [show (b - a + 1).toNat = 0 by omega]; rfl
theorem upto_cons {a b : Int} (h : a ≤ b) : upto a b = a :: upto (a + 1) b := by
  unfold upto
  rw [show (b - a + 1).toNat = (b - (a + 1) + 1).toNat + 1 by omega, List.range_succ_eq_map, List.map_cons, List.map_map]
  simp only [List.cons.injEq, Int.natCast_zero, Int.add_zero, true_and]
  apply List.map_congr_left
  intro i _
  simp only [Function.comp_apply, Nat.succ_eq_add_one, Int.natCast_add, Int.natCast_one]
  omega
theorem upto_nodup (a b : Int) : (upto a b).Nodup := by
  unfold upto
  refine List.Pairwise.map _ ?_ List.nodup_range
  intro i j h
  simp only [ne_eq]
  omega
theorem upto_len (a b : Int) : (upto a b).length = (b - a + 1).toNat := by simp [upto]
/-- the cells of a box, row by row -/
def coverL (s : Int) (b : Bx) : List Cl := (upto (b.y0 / s) (b.y1 / s)).flatMap fun y => (upto (b.x0 / s) (b.x1 / s)).map fun x => (x, y)
theorem mem_coverL {s : Int} {b : Bx} {c : Cl} : c ∈ coverL s b ↔ covers s b c := by
  unfold coverL covers
  simp only [List.mem_flatMap, List.mem_map, mem_upto]
  constructor
  · rintro ⟨y, hy, x, hx, rfl⟩; exact ⟨hx.1, hx.2, hy.1, hy.2⟩
  · rintro ⟨h1, h2, h3, h4⟩; exact ⟨c.2, ⟨h3, h4⟩, c.1, ⟨h1, h2⟩, rfl⟩
theorem coverL_nodup (s : Int) (b : Bx) : (coverL s b).Nodup := by
  unfold coverL
  rw [List.Nodup, List.pairwise_flatMap]
  refine ⟨fun y _ => ?_, ?_⟩
  · refine List.Pairwise.map _ ?_ (upto_nodup _ _)
    intro i j h e
    exact h (Prod.mk.inj e).1
  · refine List.Pairwise.imp ?_ (upto_nodup _ _)
    intro y z h c hc d hd e
    simp only [List.mem_map] at hc hd
    obtain ⟨i, _, rfl⟩ := hc
    obtain ⟨j, _, rfl⟩ := hd
    exact h (Prod.mk.inj e).2
/-! lines -/
def rowAt (y dx dy s t : Int) : Int := (y * dx + dy * t) / (dx * s)
def firstR (x y dx dy s c : Int) : Int := if c * s > x then rowAt y dx dy s (c * s - x) else y / s
def ontoR (x y dx dy s c : Int) : Bool := decide ((c + 1) * s ≤ x + dx) && decide (rowAt y dx dy s ((c + 1) * s - x) * (dx * s) = y * dx + dy * ((c + 1) * s - x))
def last0 (x y dx dy s c : Int) : Int := if (c + 1) * s ≤ x + dx then rowAt y dx dy s ((c + 1) * s - x) else (y + dy) / s
def lastR (x y dx dy s c : Int) : Int := if ontoR x y dx dy s c = true ∧ dy > 0 then last0 x y dx dy s c - 1 else last0 x y dx dy s c
def lowR (x y dx dy s c : Int) : Int := if dx = 0 then min (y / s) ((y + dy) / s) else min (firstR x y dx dy s c) (lastR x y dx dy s c)
def highR (x y dx dy s c : Int) : Int := if dx = 0 then max (y / s) ((y + dy) / s) else max (firstR x y dx dy s c) (lastR x y dx dy s c)
/-- the cells of a way that does not go to the left -/
def lineR (x y dx dy s : Int) : List Cl := (upto (x / s) ((x + dx) / s)).flatMap fun c => (upto (lowR x y dx dy s c) (highR x y dx dy s c)).map fun r => (c, r)
def lineL (px py qx qy s : Int) : List Cl := if px > qx then lineR qx qy (px - qx) (py - qy) s else lineR px py (qx - px) (qy - py) s
theorem ediv_mono {a b s : Int} (hs : 1 ≤ s) (h : a ≤ b) : a / s ≤ b / s := Int.ediv_le_ediv (by omega) h
theorem sdiv {a dx s : Int} (hd : 0 < dx) : a * dx / (dx * s) = a / s := by
  rw [Int.mul_comm dx s]; exact Int.mul_ediv_mul_of_pos_left a s hd
theorem mul_le {a b c : Int} (hc : 0 ≤ c) (h : a ≤ b) : c * a ≤ c * b := Int.mul_le_mul_of_nonneg_left h hc
/-- a place of the way lies in a row of its column that is told -/
theorem rows_hit {x y dx dy s mx my : Int} (hs : 1 ≤ s) (hdx : 0 < dx) (h0 : x ≤ mx) (h1 : mx ≤ x + dx) (hm : (my - y) * dx = dy * (mx - x)) :
    lowR x y dx dy s (mx / s) ≤ my / s ∧ my / s ≤ highR x y dx dy s (mx / s) := by
  have hY : y * dx + dy * (mx - x) = my * dx := by rw [← hm, ← Int.add_mul]; congr 1; omega
  have hds : 0 < dx * s := Int.mul_pos hdx (by omega)
  have hc1 : mx / s * s ≤ mx := Int.ediv_mul_le _ (by omega)
  have hc2 : mx < (mx / s + 1) * s := Int.lt_ediv_add_one_mul_self _ (by omega)
  generalize mx / s = c at hc1 hc2 ⊢
  have hmy : my / s = my * dx / (dx * s) := (sdiv hdx).symm
  have hend : y * dx + dy * dx = (y + dy) * dx := by rw [Int.add_mul]
  unfold lowR highR
  rw [if_neg (by omega), if_neg (by omega)]
  rcases Int.le_total 0 dy with hy | hy
  · -- upwards
    have m1 : ∀ t, t ≤ mx - x → (y * dx + dy * t) / (dx * s) ≤ my / s := fun t ht => by
      rw [hmy]; refine Int.ediv_le_ediv hds ?_
      have := mul_le hy ht; omega
    have m2 : ∀ t, mx - x ≤ t → my / s ≤ (y * dx + dy * t) / (dx * s) := fun t ht => by
      rw [hmy]; refine Int.ediv_le_ediv hds ?_
      have := mul_le hy ht; omega
    have f : firstR x y dx dy s c ≤ my / s := by
      unfold firstR
      split
      · exact m1 _ (by omega)
      · have := m1 0 (by omega)
        rw [Int.mul_zero, Int.add_zero, sdiv hdx] at this; exact this
    have l : my / s ≤ lastR x y dx dy s c := by
      have l0 : my / s ≤ last0 x y dx dy s c := by
        unfold last0
        split
        · exact m2 _ (by omega)
        · have := m2 dx (by omega)
          rw [hend, sdiv hdx] at this; exact this
      unfold lastR
      split
      · rename_i ho
        obtain ⟨ho, hp⟩ := ho
        unfold ontoR at ho
        simp only [Bool.and_eq_true, decide_eq_true_eq] at ho
        obtain ⟨he, ho⟩ := ho
        unfold last0
        rw [if_pos he]
        have hlt : dy * (mx - x) < dy * ((c + 1) * s - x) := Int.mul_lt_mul_of_pos_left (by omega) hp
        generalize rowAt y dx dy s ((c + 1) * s - x) = R at ho ⊢
        have h3 : my * dx < R * s * dx := by
          rw [Int.mul_assoc, Int.mul_comm s dx, ho, ← hY]; omega
        have h4 : my < R * s := Int.lt_of_mul_lt_mul_right h3 (by omega)
        have h5 := (Int.ediv_lt_iff_lt_mul (show 0 < s by omega)).2 h4
        omega
      · exact l0
    omega
  · -- downwards
    have ny : 0 ≤ -dy := by omega
    have m1 : ∀ t, t ≤ mx - x → my / s ≤ (y * dx + dy * t) / (dx * s) := fun t ht => by
      rw [hmy]; refine Int.ediv_le_ediv hds ?_
      have := mul_le ny ht; rw [Int.neg_mul, Int.neg_mul] at this; omega
    have m2 : ∀ t, mx - x ≤ t → (y * dx + dy * t) / (dx * s) ≤ my / s := fun t ht => by
      rw [hmy]; refine Int.ediv_le_ediv hds ?_
      have := mul_le ny ht; rw [Int.neg_mul, Int.neg_mul] at this; omega
    have f : my / s ≤ firstR x y dx dy s c := by
      unfold firstR
      split
      · exact m1 _ (by omega)
      · have := m1 0 (by omega)
        rw [Int.mul_zero, Int.add_zero, sdiv hdx] at this; exact this
    have l : lastR x y dx dy s c ≤ my / s := by
      have l0 : last0 x y dx dy s c ≤ my / s := by
        unfold last0
        split
        · exact m2 _ (by omega)
        · have := m2 dx (by omega)
          rw [hend, sdiv hdx] at this; exact this
      unfold lastR
      split
      · omega
      · exact l0
    omega
theorem line_hit {x y dx dy s mx my : Int} (hs : 1 ≤ s) (hdx : 0 ≤ dx) (h0 : x ≤ mx) (h1 : mx ≤ x + dx) (hm : (my - y) * dx = dy * (mx - x)) (hz : dx = 0 → (y ≤ my ∧ my ≤ y + dy) ∨ (y + dy ≤ my ∧ my ≤ y)) :
    cof s mx my ∈ lineR x y dx dy s := by
  unfold lineR cof
  simp only [List.mem_flatMap, List.mem_map, mem_upto]
  refine ⟨mx / s, ⟨ediv_mono hs h0, ediv_mono hs h1⟩, my / s, ?_, rfl⟩
  by_cases he : dx = 0
  · unfold lowR highR
    rw [if_pos he, if_pos he]
    rcases hz he with ⟨h2, h3⟩ | ⟨h2, h3⟩
    · have := ediv_mono hs h2; have := ediv_mono hs h3; omega
    · have := ediv_mono hs h2; have := ediv_mono hs h3; omega
  · exact rows_hit hs (by omega) h0 h1 hm
end Gs
end Go.Proofs.Ytdbpfbokfmpgcaa
