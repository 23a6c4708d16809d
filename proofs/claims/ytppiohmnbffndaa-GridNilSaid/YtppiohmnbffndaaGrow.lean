/-
  Grow: a slice in a variable that a loop's body appends to.
-/
import Derived.Test.YtppiohmnbffndaaIter
import Derived.Maps.AppendAt
import Derived.Maps.OwnIn
namespace Go.Proofs.Ytppiohmnbffndaa
open Go.RowKit
set_option linter.unusedVariables false
namespace Mem
theorem oper_append_own {F : Fence} {nF : Nat} {P : Program} {Q : Exit → Act → World → Prop} {K : Act → World → Prop} {w : World} {o : Oper} {a : Act} (s x : Operand) (t : TypeId)
    (ho : o.op = .call { callee := .builtin .append, args := #[s, x], argTypes := #[t, t] })
    (base : Nat) (e : TypeId) (i : TypeInfo) (z : Value) (size bytes : Nat) (ht : P.underlying t = some (.slice e)) (hi : P.info? e = some i) (hz : i.zero = some z)
    (hsize : i.size = size) (hby : i.bytes = bytes) (hzs : z.cells.size = size) (hsz : 0 < size)
    (v : Value) (n : Nat) (xs : List Value) (hs : a.eval s = v) (hown : w.ownsRow base e size v n xs)
    (ad : Addr) (m c : Nat) (news : List Value) (hx : a.eval x = .slice (some ad) m c) (hl : news.length = m * size) (hnews : ∀ j u, news[j]? = some u → w.cell? (ad.add j) = some u) (h1 : ∀ u ∈ news, u.oneCell' = true)
    (h63 : n + m ≤ maxLen) (hbytes : (n + m) * bytes ≤ 140737488355328) (hbase : base ≤ w.heap.size)
    (h : ∀ v' w', w'.ownsRow base e size v' (n + m) (xs ++ news) → w.grownBy w' v.ownBlock → (v'.ownBlock = v.ownBlock ∨ v'.ownBlock = some w.heap.size) → K (a.put o.dst v') w') :
    o.wpIn F nF P a w K Q := by
  obtain ⟨v', w', hr, h2, h3, h4, h5⟩ := run_append_own_at (P := P) w base t o.type e i z size bytes ht hi hz hsize hby hzs hsz v n xs hown ad m c news hl hnews h1 h63 hbytes hbase
  unfold Oper.wpIn
  refine ⟨by simp [Oper.about, ho, resolve, Target.leads, Sem.run_pure], ?_⟩
  rw [Oper.semAt_plain F _ _ (by rw [ho]; intro c hc'; cases hc')]
  simp [execOp, ho, resolve, invoke, builtin, hs, hx, hr, Result.andThen]
  exact h v' w' h2 h3 h5
/-- a slice in the variable B5: n elements, all cells xs; what was in the world w is as it was -/
def RowI (te ts : TypeId) (size : Nat) (w : World) (B5 n : Nat) (xs : List Value) (S : Nat → Prop) (W : World) : Prop :=
  ∃ a c, Blk W B5 ts [.slice a n c] ∧ W.ownsRow w.heap.size te size (.slice a n c) n xs ∧ Below w.heap.size w W ∧ (∀ k, S k ↔ k = B5 ∨ (Value.slice a n c).ownBlock = some k)
theorem RowI.keeps {te ts : TypeId} {size : Nat} {w : World} {B5 n : Nat} {xs : List Value} {S T : Nat → Prop} {W W' : World} (h : RowI te ts size w B5 n xs S W) (hk : Keeps T W W') (hd : ∀ k, S k → ¬ T k) (ht : ∀ k, T k → w.heap.size ≤ k) : RowI te ts size w B5 n xs S W' := by
  obtain ⟨a, c, h1, h2, h3, h4⟩ := h
  refine ⟨a, c, h1.keeps hk (hd _ ((h4 _).2 (.inl rfl))), owns_keeps h2 hk (fun k hk' => hd _ ((h4 _).2 (.inr hk'))), h3.trans ⟨hk.os, hk.tape, hk.output, hk.size, fun k hk' => ?_⟩, h4⟩
  exact hk.block k (by have := h3.size; omega) (fun h => by have := ht _ h; omega)
theorem RowI.stab {α : Type} {te ts : TypeId} {size : Nat} {w : World} {B5 b : Nat} (n : List α → Nat) (xs : List α → List Value) (hb : w.heap.size ≤ b) : Stab b (fun pre S W => RowI te ts size w B5 (n pre) (xs pre) S W) :=
  fun s S T W W' hj hi hk hd ht => RowI.keeps hj hk hd (fun k h => Nat.le_trans hb (ht k h))
theorem RowI.grow {te ts : TypeId} (hne : te ≠ ts) {size : Nat} {w : World} {B5 n : Nat} {xs news : List Value} {S : Nat → Prop} {W W1 w1 : World} {a : Option Addr} {c : Nat} {v' : Value}
    (h1 : Blk W B5 ts [.slice a n c]) (h2 : W.ownsRow w.heap.size te size (.slice a n c) n xs) (h3 : Below w.heap.size w W) (h4 : ∀ k, S k ↔ k = B5 ∨ (Value.slice a n c).ownBlock = some k)
    (hk : Keeps (fun _ => False) W W1) (hown : w1.ownsRow w.heap.size te size v' (n + 1) (xs ++ news)) (hgrow : W1.grownBy w1 (Value.slice a n c).ownBlock) (hat : v'.ownBlock = (Value.slice a n c).ownBlock ∨ v'.ownBlock = some W1.heap.size) (hb5 : w.heap.size ≤ B5) :
    Blk w1 B5 ts [.slice a n c] ∧ ∃ S', Foot S S' W (w1.setCell ⟨B5, 0, none⟩ v') ∧ Inb S' (w1.setCell ⟨B5, 0, none⟩ v') ∧ RowI te ts size w B5 (n + 1) (xs ++ news) S' (w1.setCell ⟨B5, 0, none⟩ v') := by
  obtain ⟨g, cap, rfl⟩ := ownsRow_succ hown
  have h51 : Blk w1 B5 ts [.slice a n c] := (h1.keeps hk (fun h => h)).grown hgrow (own_ne h2 h1 hne)
  have hn5 : some B5 ≠ (Value.slice (some ⟨g, 0, none⟩) (n + 1) cap).ownBlock := own_ne hown h51 hne
  have hkk : Keeps S W w1 := (hk.mono (fun _ _ h => h.elim)).grown hgrow (fun k hk e => (h4 k).2 (.inr e))
  have hgl : g < w1.heap.size := (hown.lt g rfl).2
  refine ⟨h51, fun k => k = B5 ∨ k = g, ⟨hkk.setCell (p := ⟨B5, 0, none⟩) (fun _ => (h4 B5).2 (.inl rfl)) _, fun k h => ?_⟩, ?_, some ⟨g, 0, none⟩, cap, ?_, ?_, ?_, ?_⟩
  · rcases h with rfl | rfl
    · exact .inl ((h4 _).2 (.inl rfl))
    · rcases hat with h | h
      · exact .inl ((h4 _).2 (.inr h.symm))
      · simp [Value.ownBlock] at h
        have := hk.size
        exact .inr (by omega)
  · intro k h
    have := h51.lt
    rcases h with rfl | rfl <;> simpa [World.setCell]
  · simpa using h51.set_ 0 (.slice (some ⟨g, 0, none⟩) (n + 1) cap)
  · exact owns_setCell hown (p := ⟨B5, 0, none⟩) hn5.symm _
  · refine Below.setCell ?_ (p := ⟨B5, 0, none⟩) hb5 _
    exact (h3.trans (hk.below h3.size (fun _ _ h => h))).grown hgrow (by have := h3.size; have := hk.size; omega) (fun k hk => (h2.lt k hk).1)
  · intro k
    simp [Value.ownBlock, eq_comm]
/-- the bodies of a code's ranges over functions, in the text's order. -/
def rbods : Code → List Code
  | .rangeFunc _ _ a b => b :: (rbods a ++ rbods b)
  | .loop c => rbods c
  | .seq a b => rbods a ++ rbods b
  | .block _ c => rbods c
  | .scope c => rbods c
  | .cond _ a b => rbods a ++ rbods b
  | _ => []
end Mem
end Go.Proofs.Ytppiohmnbffndaa
