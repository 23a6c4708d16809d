/-
GsO: told: the walk over a map, the round over the cells.
GsQ: told: the round over the cells.
-/
import Derived.Test.YtdbpfbokfmpgcaaGreatZaoGsKGsLGsN
import Derived.Test.YtdbpfbokfmpgcaaGreatZaqGsF
import Derived.Test.YtdbpfbokfmpgcaaGreatZarGrFGrGGrHGrI
set_option linter.unusedVariables false
set_option linter.unusedSimpArgs false
set_option linter.ambiguousOpen false
set_option maxHeartbeats 16000000
set_option maxRecDepth 100000
attribute [local go_sem] Go.Oper.semAt_some
namespace Go.Proofs.YtdbpfbokfmpgcaaGreat
open Go.RowKit Go.Shelf
open Go.ChangeMaps (setBlock)
set_option linter.unusedSectionVars false
namespace Gs
open Mem Gr
open So (vals)
section
variable {α : Type} [DecidableEq α] {kv : α → Value} {w w' : World} {r ri clock : Nat} {E D : List (α × Value × Nat)} {P : Program}
structure IterE (w : World) (ri r : Nat) (E : List (α × Value × Nat)) (clock : Nat) (D : List (α × Value × Nat)) : Prop where
 heap : w.heap[ri]? = some (.mapIter (some r) clock (D.map (·.2.2)).toArray clock)
 sub : ∀ e ∈ D, e ∈ E
 nodup : (D.map (·.2.2)).Nodup
def leftN (E : List (α × Value × Nat)) (ri : Nat) (W : World) : Nat :=
 match W.heap[ri]? with
 | some (.mapIter _ _ seen _) => (E.filter fun e => !seen.contains e.2.2).length
 | _ => 0
theorem IterE.lt (h : IterE w ri r E clock D) : ri < w.heap.size := (Array.getElem?_eq_some_iff.1 h.heap).1
theorem IterE.keeps {S : Nat → Prop} (h : IterE w ri r E clock D) (hk : Keeps S w w') (hn : ¬ S ri) : IterE w' ri r E clock D := ⟨(hk.block ri h.lt hn).trans h.heap, h.sub, h.nodup⟩
theorem IterE.len (h : IterE w ri r E clock D) : D.length ≤ E.length := by
 have h1 : (D.map (·.2.2)).length ≤ (E.map (·.2.2)).length := h.nodup.length_le_of_subset (fun x hx => by obtain ⟨e, he, rfl⟩ := List.mem_map.1 hx; exact List.mem_map.2 ⟨e, h.sub e he, rfl⟩)
 simpa using h1
theorem IterE.own_ne {base : Nat} {e : TypeId} {size n : Nat} {v : Value} {xs : List Value} (h : IterE w ri r E clock D) (ho : w.ownsRow base e size v n xs) : v.ownBlock ≠ some ri := by
 rcases ho.2 with ⟨rfl, _⟩ | ⟨g', cap, cur, rfl, _, hh, _⟩
 ·simp [Value.ownBlock]
 ·intro he
  have : g' = ri := by simpa [Value.ownBlock] using he
  subst this
  have := h.heap
  rw [hh] at this; cases this
theorem IterE.next (h : IterE w ri r E clock D) (hM : MapE kv w r E clock) :
 ((∀ ty, (Instr.next (.pointer (some ⟨ri, 0, none⟩)) false ty).run P w = .ok (.tuple #[.bool false]) w) ∧ ∀ e ∈ E, e ∈ D) ∨
 ∃ e ∈ E, ∃ w', (∀ ty, (Instr.next (.pointer (some ⟨ri, 0, none⟩)) false ty).run P w = .ok (.tuple #[.bool true, kv e.1, e.2.1]) w') ∧ (Instr.entry (.pointer (some ⟨ri, 0, none⟩))).run P w' = .ok (.tuple #[kv e.1, e.2.1]) w' ∧ Keeps (fun k => k = ri) w w' ∧ IterE w' ri r E clock (D ++ [e]) ∧ leftN E ri w' < leftN E ri w := by
 have hold : ∀ x ∈ ((E.map (toE kv)).toArray).toList, x.born < clock := fun x hx => by
  obtain ⟨e, he, rfl⟩ := List.mem_map.1 (show x ∈ E.map (toE kv) from hx); exact hM.born e he
 have key : ∀ e ∈ E, ((D.map (·.2.2)).toArray.contains e.2.2 = true ↔ e ∈ D) := by
  intro e he
  simp only [List.contains_toArray, List.contains_eq_mem, List.elem_eq_mem, decide_eq_true_eq]
  constructor
  ·intro hm
   obtain ⟨x, hx, hb⟩ := List.mem_map.1 hm
   have hxe := h.sub x hx
   have := hM.stamps
   -- two entries with one stamp are one
   have inj : ∀ (l : List (α × Value × Nat)), (l.map (·.2.2)).Nodup → x ∈ l → e ∈ l → x = e := by
    intro l
    induction l with
    | nil => intro _ h; cases h
    | cons y l ih =>
     intro hn h1 h2
     rw [List.map_cons, List.nodup_cons] at hn
     rcases List.mem_cons.1 h1 with g1 | g1 <;> rcases List.mem_cons.1 h2 with g2 | g2
     ·rw [g1, g2]
     ·exact absurd (List.mem_map.2 ⟨e, g2, by rw [← g1]; exact hb.symm⟩) hn.1
     ·exact absurd (List.mem_map.2 ⟨x, g1, by rw [← g2]; exact hb⟩) hn.1
     ·exact ih hn.2 g1 g2
   rw [← inj E this hxe he]; exact hx
  ·intro hm; exact List.mem_map.2 ⟨e, hm, rfl⟩
 have alt := fun ty => run_next_at (P := P) w ty ri r clock clock (D.map (·.2.2)).toArray (E.map (toE kv)).toArray clock h.heap hM.heap hold (Nat.le_refl _)
 by_cases hall : ∀ e ∈ E, e ∈ D
 ·refine .inl ⟨fun ty => ?_, hall⟩
  rcases alt ty with h1 | ⟨x, hx, _⟩
  ·exact h1.2
  ·exfalso
   unfold leftOf at hx
   simp only [Array.toList_filter, List.mem_filter, Bool.not_eq_true', List.mem_map] at hx
   obtain ⟨⟨e, he, rfl⟩, hc⟩ := hx
   have := (key e he).2 (hall e he)
   rw [show (toE kv e).born = e.2.2 from rfl] at hc
   rw [hc] at this; cases this
 ·rcases alt 0 with h1 | ⟨x, hx, w1, hw1, hrun⟩
  ·exfalso
   refine hall (fun e he => ?_)
   refine Classical.byContradiction fun hne => ?_
   have h0 : leftOf (E.map (toE kv)).toArray (D.map (·.2.2)).toArray = #[] := Array.eq_empty_of_size_eq_zero h1.1
   have : toE kv e ∈ (leftOf (E.map (toE kv)).toArray (D.map (·.2.2)).toArray).toList := by
    unfold leftOf
    simp only [Array.toList_filter, List.mem_filter, List.mem_map, Bool.not_eq_true']
    refine ⟨⟨e, he, rfl⟩, ?_⟩
    rw [show (toE kv e).born = e.2.2 from rfl]
    cases hc : (D.map (·.2.2)).toArray.contains e.2.2 with
    | false => rfl
    | true => exact absurd ((key e he).1 hc) hne
   rw [h0] at this; simp at this
  ·unfold leftOf at hx
   simp only [Array.toList_filter, List.mem_filter, Bool.not_eq_true', List.mem_map] at hx
   obtain ⟨⟨e, he, rfl⟩, hc⟩ := hx
   rw [show (toE kv e).born = e.2.2 from rfl] at hc
   have hne : e ∉ D := fun hd => by rw [(key e he).2 hd] at hc; cases hc
   have hw1' : w1.heap = w.heap := by rcases hw1 with rfl | rfl <;> rfl
   have hri := h.lt
   have hrne : ri ≠ r := by rintro rfl; have := h.heap; rw [hM.heap] at this; cases this
   obtain ⟨w', hw'⟩ : ∃ w', w' = setBlock w1 ri (.mapIter (some r) clock ((D.map (·.2.2)).toArray.push e.2.2) clock) := ⟨_, rfl⟩
   have hI : w'.heap[ri]? = some (.mapIter (some r) clock ((D.map (·.2.2)).toArray.push e.2.2) clock) := by
    rw [hw']; simp [setBlock, hw1', Array.getElem?_setIfInBounds_self_of_lt hri]
   have hk : Keeps (fun k => k = ri) w w' := by
    refine ⟨?_, ?_, ?_, by rw [hw']; simp [setBlock, hw1'], fun k hk hn => ?_⟩
    ·rw [hw']; rcases hw1 with rfl | rfl <;> rfl
    ·rw [hw']; rcases hw1 with rfl | rfl <;> rfl
    ·rw [hw']; rcases hw1 with rfl | rfl <;> rfl
    ·rw [hw']; simp [setBlock, hw1', Array.getElem?_setIfInBounds_ne (Ne.symm hn)]
   have hpush : (D.map (·.2.2)).toArray.push e.2.2 = ((D ++ [e]).map (·.2.2)).toArray := by simp
   refine .inr ⟨e, he, w', fun ty => by rw [hw']; exact hrun, ?_, hk, ⟨by rw [hI, hpush], fun x hx => ?_, ?_⟩, ?_⟩
   ·exact run_entry_at w' ri r clock (D.map (·.2.2)).toArray (E.map (toE kv)).toArray clock (toE kv e) hI ((hk.block r hM.lt (fun e => hrne e.symm)).trans hM.heap) (by simpa using List.mem_map.2 ⟨e, he, rfl⟩) (by simpa [Function.comp_def, toE] using hM.stamps)
   ·rcases List.mem_append.1 hx with hx | hx
    ·exact h.sub x hx
    ·simp at hx; subst hx; exact he
   ·rw [List.map_append, List.nodup_append]
    refine ⟨h.nodup, ZA7, ?_⟩
    intro a ha b hb
    simp at hb; subst hb
    rintro rfl
    have : (D.map (·.2.2)).toArray.contains e.2.2 = true := by simpa using ha
    rw [hc] at this; cases this
   ·unfold leftN
    rw [hI, h.heap]
    have e1 : (E.filter fun x => !((D.map (·.2.2)).toArray.push e.2.2).contains x.2.2) = ((E.filter fun x => !(D.map (·.2.2)).toArray.contains x.2.2).filter fun x => decide (x.2.2 ≠ e.2.2)) := by
     rw [List.filter_filter]
     apply List.filter_congr
     intro x _
     rw [hpush]
     simp only [List.contains_toArray, List.contains_eq_mem, List.map_append, List.mem_append, List.map_cons, List.map_nil, List.mem_singleton]
     by_cases g1 : x.2.2 = e.2.2 <;> by_cases g2 : x.2.2 ∈ D.map (·.2.2) <;> simp [g1, g2]
    show (E.filter fun x => !((D.map (·.2.2)).toArray.push e.2.2).contains x.2.2).length < _
    rw [e1]
    refine (List.length_filter_lt_length_iff_exists).2 ⟨e, ?_, ZA7⟩
    rw [List.mem_filter]
    exact ⟨he, by rw [hc]; rfl⟩
end
theorem oper_append_src {F : Fence} {nF : Nat} {P : Program} {Q : Exit → Act → World → Prop} {K : Act → World → Prop} {w : World} {o : Oper} {a : Act} (s x : Operand) (t : TypeId)
 (ho : o.op = .call { callee := .builtin .append, args := #[s, x], argTypes := #[t, t] })
 (base : Nat) (e : TypeId) (i : TypeInfo) (z : Value) (size bytes : Nat) (ht : P.underlying t = some (.slice e)) (hi : P.info? e = some i) (hz : i.zero = some z)
 (hsize : i.size = size) (hby : i.bytes = bytes) (hzs : z.cells.size = size) (hsz : 0 < size)
 (v : Value) (n : Nat) (xs : List Value) (hs : a.eval s = v) (hown : w.ownsRow base e size v n xs)
 (v2 : Value) (m : Nat) (news : List Value) (base2 : Nat) (hx : a.eval x = v2) (hsrc : w.ownsRow base2 e size v2 m news) (h1 : ∀ u ∈ news, u.oneCell' = true)
 (h63 : n + m ≤ maxLen) (hbytes : (n + m) * bytes ≤ 140737488355328) (hbase : base ≤ w.heap.size)
 (h : ∀ v' w', w'.ownsRow base e size v' (n + m) (xs ++ news) → w.grownBy w' v.ownBlock → (v'.ownBlock = v.ownBlock ∨ v'.ownBlock = some w.heap.size) → K (a.put o.dst v') w') :
 o.wpIn F nF P a w K Q := by
 rcases hsrc.2 with ⟨rfl, rfl⟩ | ⟨g, cap, cur, rfl, _, _, _⟩
 ·have hn : news = [] := List.eq_nil_of_length_eq_zero (by simpa using hsrc.1)
  subst hn
  have hr := run_append_owned_none (P := P) w base t o.type e i size ht hi v n xs hown
  unfold Oper.wpIn
  refine ⟨by simp [Oper.about, ho, resolve, Target.leads, Sem.run_pure], ?_⟩
  rw [Oper.semAt_plain F _ _ (by rw [ho]; intro c hc'; cases hc')]
  simp [execOp, ho, resolve, invoke, builtin, hs, hx, hr, Result.andThen]
  exact h v w (by simpa using hown) ⟨rfl, rfl, rfl, Nat.le_refl _, fun _ _ _ => rfl⟩ (.inl rfl)
 ·exact oper_append_own s x t ho base e i z size bytes ht hi hz hsize hby hzs hsz v n xs hs hown ⟨g, 0, none⟩ m cap news hx hsrc.1 (hsrc.cells rfl) h1 h63 hbytes hbase h
def TI (w : World) (O : Nat → Prop) (B : Nat) (V : List Nat) (S : Nat → Prop) (W : World) : Prop :=
 Keeps O w W ∧ ∃ a cp, Blk W B 45 [.slice a V.length cp] ∧ W.ownsRow w.heap.size 35 1 (.slice a V.length cp) V.length (vals V) ∧ ∀ k, S k ↔ k = B ∨ (Value.slice a V.length cp).ownBlock = some k
section
variable {w W W' : World} {O S T : Nat → Prop} {B : Nat} {V : List Nat}
theorem TI.keeps (h : TI w O B V S W) (hk : Keeps T W W') (hd : ∀ k, S k → ¬ T k) (ht : ∀ k, k < w.heap.size → T k → O k) : TI w O B V S W' := by
 obtain ⟨h1, a, cp, h2, h3, h4⟩ := h
 exact ⟨h1.then hk ht, a, cp, h2.keeps hk (hd _ ((h4 _).2 (.inl rfl))), owns_keeps h3 hk (fun k hk' => hd _ ((h4 _).2 (.inr hk'))), h4⟩
theorem TI.grow {W1 w1 : World} {a : Option Addr} {c : Nat} {v' : Value} {U : List Nat} (h0 : Keeps O w W) (h1 : Blk W B 45 [.slice a V.length c]) (h2 : W.ownsRow w.heap.size 35 1 (.slice a V.length c) V.length (vals V)) (h4 : ∀ k, S k ↔ k = B ∨ (Value.slice a V.length c).ownBlock = some k) (hB : w.heap.size ≤ B)
 (hk : Keeps (fun _ => False) W W1) (hown : w1.ownsRow w.heap.size 35 1 v' (V.length + U.length) (vals V ++ vals U)) (hgrow : W1.grownBy w1 (Value.slice a V.length c).ownBlock) (hat : v'.ownBlock = (Value.slice a V.length c).ownBlock ∨ v'.ownBlock = some W1.heap.size) :
 Blk w1 B 45 [.slice a V.length c] ∧ ∃ S', Foot S S' W (w1.setCell ⟨B, 0, none⟩ v') ∧ Inb S' (w1.setCell ⟨B, 0, none⟩ v') ∧ TI w O B (V ++ U) S' (w1.setCell ⟨B, 0, none⟩ v') := by
 obtain ⟨a', c', rfl⟩ : ∃ a' c', v' = .slice a' (V.length + U.length) c' := own_slice hown
 have hb1 : Blk w1 B 45 [.slice a V.length c] := (h1.keeps hk (fun h => h)).grown hgrow (own_ne h2 h1 ZAH)
 have hn5 : some B ≠ (Value.slice a' (V.length + U.length) c').ownBlock := own_ne hown hb1 ZAH
 have hk1 : Keeps (fun k => some k = (Value.slice a V.length c).ownBlock) W w1 := (hk.mono (fun _ _ h => h.elim)).trans (Keeps.of_grown hgrow)
 have hk2 : Keeps S W w1 := hk1.mono (fun k _ h => (h4 k).2 (.inr h.symm))
 have hk3 : Keeps S W (w1.setCell ⟨B, 0, none⟩ (.slice a' (V.length + U.length) c')) := hk2.setCell (p := ⟨B, 0, none⟩) (fun _ => (h4 B).2 (.inl rfl)) _
 have hel : vals V ++ vals U = vals (V ++ U) := by simp [vals]
 have hzz := hk.size
 have hnew : ∀ k, (Value.slice a' (V.length + U.length) c').ownBlock = some k → (Value.slice a V.length c).ownBlock = some k ∨ W.heap.size ≤ k := fun k h => by
  rcases hat with e | e
  ·exact .inl (by rw [← e]; exact h)
  ·rw [e] at h; injection h with h; exact .inr Z8
 refine ⟨hb1, fun k => k = B ∨ (Value.slice a' (V.length + U.length) c').ownBlock = some k, ⟨hk3, fun k h => ?_⟩, fun k h => ?_, h0.then hk3 (fun i hi h => ?_), a', c', ?_, ?_, fun k => ?_⟩
 ·rcases h with rfl | h
  ·exact .inl ((h4 _).2 (.inl rfl))
  ·exact (hnew k h).imp (fun h => (h4 k).2 (.inr h)) (fun h => h)
 ·rcases h with rfl | h
  ·have := hb1.lt; simpa [World.setCell]
  ·have := (hown.lt k h).2; simpa [World.setCell]
 ·exfalso
  rcases (h4 i).1 h with e | e
  ·omega
  ·have := (h2.lt i e).1; omega
 ·simpa using hb1.set_ 0 (.slice a' (V.length + U.length) c')
 ·have := owns_setCell hown (p := ⟨B, 0, none⟩) hn5.symm (.slice a' (V.length + U.length) c')
  rw [hel] at this
  simpa using this
 ·simp
end
end Gs
open Go.RowKit Go.Shelf
namespace Gs
open Mem Gr
open So (vals)
theorem frames36 {P : Act → Prop} (hP : ∀ u0 u1 u2 u3 u4 u5 u6 u7 u8 u9 u10 u11 u12 u13 u14 u15 u16 u17 u18 u19 u20 u21 u22 u23 u24 u25 u26 u27 u28 u29 u30 u31 u32 u33 u34 u35 : Value, P ⟨#[u0, u1, u2, u3, u4, u5, u6, u7, u8, u9, u10, u11, u12, u13, u14, u15, u16, u17, u18, u19, u20, u21, u22, u23, u24, u25, u26, u27, u28, u29, u30, u31, u32, u33, u34, u35], []⟩) : ∀ a : Act, a.tmps.size = 36 → a.defers = [] → P a := by
 exact ZO
noncomputable def toldBody : Code := (rbods (Tryz.f123.body.getD .skip)).getD 0 .skip
def idsAt (C : List (Cl × List Nat)) (c : Cl) : List Nat :=
 match C with
 | [] => []
 | e :: L => if e.1 = c then e.2 else idsAt L c
theorem idsAt_none {C : List (Cl × List Nat)} {c : Cl} (h : ∀ e ∈ C, e.1 ≠ c) : idsAt C c = [] := by
 induction C with
 | nil => rfl
 | cons e L ih => rw [idsAt, if_neg (h e ZA7), ih (fun x hx => h x ZAt)]
theorem idsAt_at {c : Cl} {V : List Nat} {L1 L2 : List (Cl × List Nat)} (h : ∀ e ∈ L1, e.1 ≠ c) : idsAt (L1 ++ (c, V) :: L2) c = V := by
 induction L1 with
 | nil => simp [idsAt]
 | cons e L ih => rw [List.cons_append, idsAt, if_neg (h e ZA7), ih (fun x hx => h x ZAt)]
theorem CellsM.look {w : World} {r : Nat} {M : List CE} (h : CellsM w r M) (c : Cl) : ∃ vv, lookK c (kvE M) = (if (∀ e ∈ M, e.c ≠ c) then none else some vv) ∧ ((lookK c (kvE M)).getD (.slice none 0 0)) = vv ∧ w.ownsRow 0 35 1 vv (idsAt (viewE M) c).length (vals (idsAt (viewE M) c)) := by
 rcases h.at_ c with ⟨hno, hl⟩ | ⟨M1, e, M2, hMe, hec, h1, h2, hl⟩
 ·refine ⟨.slice none 0 0, by rw [hl, if_pos hno], by rw [hl]; rfl, ?_⟩
  rw [idsAt_none (fun p hp => by obtain ⟨x, hx, rfl⟩ := List.mem_map.1 hp; exact hno x hx)]
  exact World.ownsRow_nil _ _ _ _
 ·refine ⟨e.sl, by rw [hl, if_neg (fun hn => hn e (by rw [hMe]; simp) hec)], by rw [hl]; rfl, ?_⟩
  have : idsAt (viewE M) c = e.ids := by
   rw [hMe]
   unfold viewE
   rw [List.map_append, List.map_cons, hec, idsAt_at]
   intro p hp; obtain ⟨x, hx, rfl⟩ := List.mem_map.1 hp; exact h1 x hx
  rw [this]
  exact h.own e (by rw [hMe]; simp)
theorem ti_stab {β : Type} {w : World} {O : Nat → Prop} {B b : Nat} (hb : w.heap.size ≤ b) (f : β → List Nat) : Stab b (fun s S W => TI w O B (f s) S W) :=
 fun s S T W W' h hin hk hd ht => TI.keeps h hk hd (fun k hk hT => by have := ht k hT; omega)
def ToldM (w : World) (O : Nat → Prop) (C : List (Cl × List Nat)) (V0 : List Nat) (B27 B : Nat) (s : List Cl × Cl × Act) (S : Nat → Prop) (W : World) : Prop :=
 ∃ X S1, Fr s.2.2 36 [(2, .pointer (some ⟨B27, 0, none⟩)), (5, .pointer (some ⟨B, 0, none⟩)), (7, .pointer (some ⟨X, 0, none⟩))] ∧ Blk W X 181 [.int .i32 s.2.1.1, .int .i32 s.2.1.2] ∧ TI w O B (V0 ++ s.1.flatMap (idsAt C)) S1 W ∧ Inb S1 W ∧ ¬ S1 X ∧ w.heap.size ≤ X ∧ ∀ k, S k ↔ S1 k ∨ k = X
theorem toldm_stab {w : World} {O : Nat → Prop} {b : Nat} (hb : w.heap.size ≤ b) (C : List (Cl × List Nat)) (V0 : List Nat) (B27 B : Nat) : Stab b (ToldM w O C V0 B27 B) := by
 intro s S T W W' ⟨X, S1, hF, h1, h2, h3, h4, hx, h5⟩ hin hk hd ht
 exact ⟨X, S1, hF, h1.keeps hk (hd _ ((h5 _).2 (.inr rfl))), TI.keeps h2 hk (fun k h => hd k ((h5 k).2 (.inl h))) (fun k hk hT => by have := ht k hT; omega), h3.mono hk.size, h4, hx, h5⟩
theorem told_round (l : Nat) (w : World) (O : Nat → Prop) (G r1 r2 r3 B27 B : Nat) (s : Int) (M : List CE) (V0 : List Nat) (hG : Blk w G 84 [.int .i64 s, .map (some r1), .map (some r2), .map (some r3)]) (b27 : Blk w B27 64 [.pointer (some ⟨G, 0, none⟩)]) (hM : CellsM w r2 M)
 (hO1 : ¬ O G) (hO2 : ¬ O B27) (hO3 : ¬ O r2) (hO4 : ∀ k, Own M k → ¬ O k) (hBw : w.heap.size ≤ B)
 (pre : List Cl) (x : Cl) (hN : (V0 ++ (pre ++ [x]).flatMap (idsAt (viewE M))).length ≤ 1000000000) (S : Nat → Prop) (W : World) (a : Act) (hI : ToldM w O (viewE M) V0 B27 B (pre, x, a) S W) (hin : Inb S W) : toldBody.wpIn (Fence.wide.inRound l) 7 Tryz.prog (Mem.Left (fun pre S W => TI w O B (V0 ++ pre.flatMap (idsAt (viewE M))) S W) (fun _ _ _ _ => False) (pre ++ [x]) S W) a W := by
 obtain ⟨X, S1, hF, hX, ⟨hK, sa, cp, hB, hR, hS1⟩, hin1, hnX, hwX, hS⟩ := hI
 simp only at hF hX hB hR hS1
 revert hF
 refine fun hF => frames36 (P := fun a => Fr a 36 [(2, .pointer (some ⟨B27, 0, none⟩)), (5, .pointer (some ⟨B, 0, none⟩)), (7, .pointer (some ⟨X, 0, none⟩))] → toldBody.wpIn (Fence.wide.inRound l) 7 Tryz.prog (Mem.Left (fun pre S W => TI w O B (V0 ++ pre.flatMap (idsAt (viewE M))) S W) (fun _ _ _ _ => False) (pre ++ [x]) S W) a W) ?_ a hF.1 hF.2.1 hF
 intro u0 u1 u2 u3 u4 u5 u6 u7 u8 u9 u10 u11 u12 u13 u14 u15 u16 u17 u18 u19 u20 u21 u22 u23 u24 u25 u26 u27 u28 u29 u30 u31 u32 u33 u34 u35 hF
 obtain rfl : u2 = .pointer (some ⟨B27, 0, none⟩) := hF.at_ 2 _ ZA7
 obtain rfl : u5 = .pointer (some ⟨B, 0, none⟩) := hF.at_ 5 _ ZA7
 obtain rfl : u7 = .pointer (some ⟨X, 0, none⟩) := hF.at_ 7 _ ZA7
 clear hF
 obtain ⟨V, hV⟩ := ZE (V0 ++ pre.flatMap (idsAt (viewE M)))
 rw [← hV] at hB hR hS1
 have hMW := hM.keeps hK hO3 hO4
 obtain ⟨vv, _, hlv, hsrc⟩ := (hMW.kd (Keeps.refl (fun _ => False) W).drew).look x
 obtain ⟨U, hU⟩ := ZE (idsAt (viewE M) x)
 rw [← hU] at hsrc
 have hVU : V.length + U.length ≤ 1000000000 := by
  rw [hV, hU]
  simp only [List.flatMap_append, List.length_append, List.flatMap_cons, List.flatMap_nil, List.append_nil] at hN ⊢
  omega
 have hlk : ∀ W', MapL kcl W' r2 (kvE M) → (Instr.lookup 81 (.map (some r2)) (.agg #[.int .i32 x.1, .int .i32 x.2]) false).run Tryz.prog W' = .ok vv W' := fun W' hm => by
  have := hm.look keycl Tryz.underlying81 zvs x false
  rw [hlv] at this
  exact this
 have hBX : B ≠ X := fun e => hnX (e ▸ (hS1 B).2 (.inl rfl))
 have l27 := b27.lt
 have lG := hG.lt
 have lM := hM.lt
 have HSN := Lib.hid (show ∀ W', Keeps (fun k => k = B ∨ (Value.slice sa V.length cp).ownBlock = some k) W W' → (∀ i : Nat, W'.cell? ⟨B27, i, none⟩ = ([.pointer (some ⟨G, 0, none⟩)] : List Value)[i]?) ∧ (∀ i : Nat, W'.cell? ⟨G, i, none⟩ = ([.int .i64 s, .map (some r1), .map (some r2), .map (some r3)] : List Value)[i]?) ∧ (∀ i : Nat, W'.cell? ⟨X, i, none⟩ = ([.int .i32 x.1, .int .i32 x.2] : List Value)[i]?) ∧ MapL kcl W' r2 (kvE M) from fun W' hk => by
  have far : ∀ k, k < w.heap.size → ¬ (k = B ∨ (Value.slice sa V.length cp).ownBlock = some k) := fun k h1 h => by
   rcases h with h | h
   ·omega
   ·have := (hR.lt k h).1; omega
  exact ⟨((b27.keeps hK hO2).keeps hk (far _ l27)).cell, ((hG.keeps hK hO1).keeps hk (far _ lG)).cell, (hX.keeps hk (fun h => hnX ((hS1 X).2 h))).cell, (hMW.map).keeps hk (far _ lM)⟩)
 have hS0 : (∀ i : Nat, W.drew.cell? ⟨B27, i, none⟩ = ([.pointer (some ⟨G, 0, none⟩)] : List Value)[i]?) ∧ (∀ i : Nat, W.drew.cell? ⟨G, i, none⟩ = ([.int .i64 s, .map (some r1), .map (some r2), .map (some r3)] : List Value)[i]?) ∧ (∀ i : Nat, W.drew.cell? ⟨X, i, none⟩ = ([.int .i32 x.1, .int .i32 x.2] : List Value)[i]?) ∧ MapL kcl W.drew r2 (kvE M) := HSN.out _ (Keeps.refl _ W).drew
 obtain ⟨i0, hi0, hz0, hz1, hz2⟩ := info_parts u32Info
 have hRd : W.drew.ownsRow w.heap.size 35 1 (.slice sa V.length cp) V.length (vals V) := owns_keeps hR (Keeps.refl (fun _ => False) W).drew (fun _ _ h => h)
 have hzw := hK.size
 have HI := Lib.hid (And.intro hK (And.intro hB (And.intro hR (And.intro hS1 (And.intro hS (And.intro hin (And.intro hRd (And.intro hsrc (And.intro hV (And.intro hU (And.intro hBw (And.intro hVU hzw))))))))))))
 have cB : W.drew.cell? ⟨B, 0, none⟩ = some (.slice sa V.length cp) := by have := hB.cell 0; simpa using this
 clear hK hS hin hG b27 hM hX hB hR hS1 hBX hBw hMW hsrc hRd hV hU hVU hzw hO1 hO2 hO3 hO4 l27 lG lM hnX hwX hin1 hlv hN
 conv => arg 4; whnf
 gi_wp2
 refine region_heldIn (fun W' => (∀ i : Nat, W'.cell? ⟨B27, i, none⟩ = ([.pointer (some ⟨G, 0, none⟩)] : List Value)[i]?) ∧ (∀ i : Nat, W'.cell? ⟨G, i, none⟩ = ([.int .i64 s, .map (some r1), .map (some r2), .map (some r3)] : List Value)[i]?) ∧ (∀ i : Nat, W'.cell? ⟨X, i, none⟩ = ([.int .i32 x.1, .int .i32 x.2] : List Value)[i]?) ∧ MapL kcl W' r2 (kvE M)) ZAB ?_
 (refine anyHeld_take 1 (v := ?_) ZAB rfl ZAB ZAB ZAB (fun _ _ _ h => h) ⟨Or.inl ⟨ZAP, ?_⟩, fun _ _ _ => trivial⟩ ZAF ?_; rotate_left; (focus (rintro w ⟨q1, q2, q3, q5⟩; have q6 := hlk _ q5; clear q5; go_simp; try with_reducible rfl))); simp only [Act.put, List.getElem_toArray, List.getElem_cons_succ, List.getElem_cons_zero, List.setIfInBounds_toArray, List.set_cons_zero, List.set_cons_succ]
 (refine anyHeld_take 2 (v := ?_) ZAB rfl ZAB ZAB ZAB (fun _ _ _ h => h) ⟨Or.inl ⟨ZAP, ?_⟩, fun _ _ _ => trivial⟩ ZAF ?_; rotate_left; (focus (rintro w ⟨q1, q2, q3, q5⟩; have q6 := hlk _ q5; clear q5; go_simp; try with_reducible rfl))); simp only [Act.put, List.getElem_toArray, List.getElem_cons_succ, List.getElem_cons_zero, List.setIfInBounds_toArray, List.set_cons_zero, List.set_cons_succ]
 (refine anyHeld_take 3 (v := ?_) ZAB rfl ZAB ZAB ZAB (fun _ _ _ h => h) ⟨Or.inl ⟨ZAP, ?_⟩, fun _ _ _ => trivial⟩ ZAF ?_; rotate_left; (focus (rintro w ⟨q1, q2, q3, q5⟩; have q6 := hlk _ q5; clear q5; go_simp; try with_reducible rfl))); simp only [Act.put, List.getElem_toArray, List.getElem_cons_succ, List.getElem_cons_zero, List.setIfInBounds_toArray, List.set_cons_zero, List.set_cons_succ]
 (refine anyHeld_take 4 (v := ?_) ZAB rfl ZAB ZAB ZAB (fun _ _ _ h => h) ⟨Or.inl ⟨ZAP, ?_⟩, fun _ _ _ => trivial⟩ ZAF ?_; rotate_left; (focus (rintro w ⟨q1, q2, q3, q5⟩; have q6 := hlk _ q5; clear q5; go_simp; try with_reducible rfl))); simp only [Act.put, List.getElem_toArray, List.getElem_cons_succ, List.getElem_cons_zero, List.setIfInBounds_toArray, List.set_cons_zero, List.set_cons_succ]
 (refine anyHeld_take 5 (v := ?_) ZAB rfl ZAB ZAB ZAB (fun _ _ _ h => h) ⟨Or.inl ⟨ZAP, ?_⟩, fun _ _ _ => trivial⟩ ZAF ?_; rotate_left; (focus (rintro w ⟨q1, q2, q3, q5⟩; have q6 := hlk _ q5; clear q5; go_simp; try with_reducible rfl))); simp only [Act.put, List.getElem_toArray, List.getElem_cons_succ, List.getElem_cons_zero, List.setIfInBounds_toArray, List.set_cons_zero, List.set_cons_succ]
 (refine anyHeld_take 6 (v := ?_) ZAB rfl ZAB ZAB ZAB (fun _ _ _ h => h) ⟨Or.inl ⟨ZAP, ?_⟩, fun _ _ _ => trivial⟩ ZAF ?_; rotate_left; (focus (rintro w ⟨q1, q2, q3, q5⟩; have q6 := hlk _ q5; clear q5; go_simp; try with_reducible rfl))); simp only [Act.put, List.getElem_toArray, List.getElem_cons_succ, List.getElem_cons_zero, List.setIfInBounds_toArray, List.set_cons_zero, List.set_cons_succ]
 refine anyHeld_one 0 ZAB rfl ZAP (fun K hK => ?_)
 go_simp
 refine hK _ _ hS0 ?_
 clear hK
 try simp only [Act.put, List.getElem_toArray, List.getElem_cons_succ, List.getElem_cons_zero, List.setIfInBounds_toArray, List.set_cons_zero, List.set_cons_succ]
 refine anyHeld_one 7 ZAB rfl ZAP (fun K hK => ?_)
 refine oper_append_src (.tmp 23) (.tmp 29) 45 ZAP w.heap.size 35 i0 _ 1 4 Tryz.underlying45 hi0 hz0 hz1 hz2 rfl ZAH (.slice sa V.length cp) V.length (vals V) ZAP HI.out.2.2.2.2.2.2.1 vv U.length (vals U) 0 ZAP HI.out.2.2.2.2.2.2.2.1 (by intro u hu; obtain ⟨y, _, rfl⟩ := List.mem_map.1 hu; rfl) (by unfold maxLen; have := HI.out.2.2.2.2.2.2.2.2.2.2.2.1; omega) (by have := HI.out.2.2.2.2.2.2.2.2.2.2.2.1; omega) HI.out.2.2.2.2.2.2.2.2.2.2.2.2 ?_
 intro v' w1 hown hgrow hat
 obtain ⟨a', c', rfl⟩ := own_slice hown
 obtain ⟨hK0, hB, hR, hS1, hS, hin, hRd, hsrc, hV, hU, hBw, hVU, hzw⟩ := HI.out
 obtain ⟨hb1, S', hf, hin', hT⟩ := TI.grow (W1 := W.drew) hK0 hB hR hS1 hBw (Keeps.refl _ W).drew hown hgrow hat
 have hk1 : Keeps (fun k => k = B ∨ (Value.slice sa V.length cp).ownBlock = some k) W w1 := ((Keeps.refl _ W).drew).trans ((Keeps.of_grown hgrow).mono (fun k _ h => .inr h.symm))
 have hk2 : Keeps (fun k => k = B ∨ (Value.slice sa V.length cp).ownBlock = some k) W (w1.setCell ⟨B, 0, none⟩ (.slice a' (V.length + U.length) c')) := hk1.setCell (p := ⟨B, 0, none⟩) (fun _ => .inl rfl) _
 have HF := Lib.hid (And.intro hf (And.intro hin' hT))
 have hs1 := HSN.out w1 hk1
 have hs2 := HSN.out _ hk2
 have fB := hb1.frozen 0
 have cB := hb1.cell 0
 simp only [List.getElem?_cons_zero] at cB
 clear hown hgrow hat hf hin' hT hk1 hk2 hb1 hK0 hB hR hS1 hS hin hRd hsrc hV hU hBw hVU hzw hS0
 refine hK _ _ hs1 ?_
 clear hK
 try simp only [Act.put, List.getElem_toArray, List.getElem_cons_succ, List.getElem_cons_zero, List.setIfInBounds_toArray, List.set_cons_zero, List.set_cons_succ]
 refine anyHeld_one 8 ZAB rfl ZAP (fun K hK => ?_)
 go_simp
 refine hK _ _ hs2 ?_
 clear hK
 refine anyHeld_done ZAB ?_ _
 gi_wp2
 obtain ⟨hf, hin', hT⟩ := HF.out
 obtain ⟨hK0, hB, hR, hS1, hS, hin, hRd, hsrc, hV, hU, hBw, hVU, hzw⟩ := HI.out
 refine ⟨S', ⟨hf.1.mono (fun k _ h => (hS k).2 (.inl h)), fun k h => (hf.2 k h).imp (fun h => (hS k).2 (.inl h)) (fun h => h)⟩, hin', ?_⟩
 have e1 : V0 ++ (pre ++ [x]).flatMap (idsAt (viewE M)) = V ++ U := by rw [hV, hU]; simp
 show TI w O B (V0 ++ (pre ++ [x]).flatMap (idsAt (viewE M))) S' _
 rw [e1]; exact hT
end Gs
end Go.Proofs.YtdbpfbokfmpgcaaGreat
