/-
  AppB: one element more on a slice of one's own, as long as memory goes.
-/
import Derived.Test.YtdhelpbhbhihaaaGreatDoorApp
namespace Go.Proofs.YtdhelpbhbhihaaaGreatDoor
open Go.RowKit
set_option linter.unusedVariables false
namespace Mem
/-- what is wanted of an element's type, its bytes told -/
structure ElB (P : Program) (T e : TypeId) {α : Type} (f : α → List Value) (size by_ : Nat) : Prop where
  row : P.underlying T = some (.slice e)
  info : ∃ i z, P.info? e = some i ∧ i.zero = some z ∧ i.size = size ∧ i.bytes = by_ ∧ z.cells.size = size
  pos : 0 < size
  len : ∀ x, (f x).length = size
  one : ∀ x, ∀ u ∈ f x, u.oneCell' = true
theorem app_b {P : Program} {T e : TypeId} {α : Type} {f : α → List Value} {size by_ : Nat} (hE : ElB P T e f size by_) {ops : Array Oper} {rest : List Oper} {o : Oper} {a : Act} {w : World} {Q : Exit → Act → World → Prop} (hgd : o.guard = none) (s x : Operand)
    (ho : o.op = .call { callee := .builtin .append, args := #[s, x], argTypes := #[T, T] }) (base : Nat) (l : List α) (n : Nat) (la : Option Addr) (lc : Nat) (hs : a.eval s = .slice la n lc) (hO : w.ownsRow base e size (.slice la n lc) n (l.flatMap f))
    (p : List α) (m : Nat) (hm : m = p.length) (nb : Addr) (mc : Nat) (hx : a.eval x = .slice (some nb) m mc) (hnew : ∀ j u, (p.flatMap f)[j]? = some u → w.cell? (nb.add j) = some u) (hl : n + m ≤ maxLen) (hby : (n + m) * by_ ≤ 140737488355328) (h1 : 0 < n + m) (hb : base ≤ w.heap.size)
    (h : ∀ g' cap' w', w'.ownsRow base e size (.slice (some ⟨g', 0, none⟩) (n + m) cap') (n + m) ((l ++ p).flatMap f) → w.grownBy w' (Value.slice la n lc).ownBlock → wpList P ops Q rest (a.put o.dst (.slice (some ⟨g', 0, none⟩) (n + m) cap')) w') :
    wpList P ops Q (o :: rest) a w := by
  obtain ⟨i, z, hi, hz, h2, h3, h4⟩ := hE.info
  refine wpList_append_own_at w hgd s x T ho base e i z size i.bytes hE.row hi hz h2 rfl h4 hE.pos (.slice la n lc) n (l.flatMap f) hs hO nb m mc (p.flatMap f) hx (by rw [flatMap_len hE.len, hm]) hnew (fun u hu => by obtain ⟨y, _, hy⟩ := List.mem_flatMap.1 hu; exact hE.one y u hy) hl (by rw [h3]; exact hby) hb ?_
  · intro v' w' hown hgrow _ _
    have e2 : (l ++ p).flatMap f = l.flatMap f ++ p.flatMap f := by simp
    obtain ⟨k, hk⟩ : ∃ k, n + m = k + 1 := ⟨n + m - 1, by omega⟩
    rw [hk] at hown
    obtain ⟨g', cap', rfl⟩ := ownsRow_succ hown
    rw [← hk] at hown ⊢
    exact h g' cap' w' (by rw [e2]; exact hown) hgrow
end Mem
end Go.Proofs.YtdhelpbhbhihaaaGreatDoor
