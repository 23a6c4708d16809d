/-
AppW: one element more on a slice of one's own, of an element of up to 1000 bytes.
-/
import Derived.Test.YtdaindihobfokaaGreatDoorZadAppAppGAppH
namespace Go.Proofs.YtdaindihobfokaaGreatDoor
open Go.RowKit
set_option linter.unusedVariables false
namespace Mem
/-- what is wanted of an element's type -/
structure ElW (P : Program) (T e : TypeId) {α : Type} (f : α → List Value) (size : Nat) : Prop where
  row : P.underlying T = some (.slice e)
  info : ∃ i z, P.info? e = some i ∧ i.zero = some z ∧ i.size = size ∧ i.bytes ≤ 1000 ∧ z.cells.size = size
  pos : 0 < size
  len : ∀ x, (f x).length = size
  one : ∀ x, ∀ u ∈ f x, u.oneCell' = true
theorem app_w {P : Program} {T e : TypeId} {α : Type} {f : α → List Value} {size : Nat} (hE : ElW P T e f size) {ops : Array Oper} {rest : List Oper} {o : Oper} {a : Act} {w : World} {Q : Exit → Act → World → Prop} (hgd : o.guard = none) (s x : Operand)
    (ho : o.op = .call { callee := .builtin .append, args := #[s, x], argTypes := #[T, T] }) (base : Nat) (l : List α) (n : Nat) (la : Option Addr) (lc : Nat) (hs : a.eval s = .slice la n lc) (hO : w.ownsRow base e size (.slice la n lc) n (l.flatMap f))
    (p : α) (nb : Nat) (hx : a.eval x = .slice (some ⟨nb, 0, none⟩) 1 1) (hnew : ∀ j u, (f p)[j]? = some u → w.cell? ((⟨nb, 0, none⟩ : Addr).add j) = some u) (hl : n ≤ 1000000000) (hb : base ≤ w.heap.size)
    (h : ∀ g' cap' w', w'.ownsRow base e size (.slice (some ⟨g', 0, none⟩) (n + 1) cap') (n + 1) ((l ++ [p]).flatMap f) → w.grownBy w' (Value.slice la n lc).ownBlock → wpList P ops Q rest (a.put o.dst (.slice (some ⟨g', 0, none⟩) (n + 1) cap')) w') :
    wpList P ops Q (o :: rest) a w := by
  obtain ⟨i, z, hi, hz, h1, h2, h3⟩ := hE.info
  refine wpList_append_own_at w hgd s x T ho base e i z size i.bytes hE.row hi hz h1 rfl h3 hE.pos (.slice la n lc) n (l.flatMap f) hs hO ⟨nb, 0, none⟩ 1 1 (f p) hx (by rw [hE.len, Nat.one_mul]) hnew (hE.one p) (by unfold maxLen; omega) ?_ hb ?_
  · have := Nat.mul_le_mul (show n + 1 ≤ 1000000001 by omega) h2
    omega
  · intro v' w' hown hgrow _ _
    obtain ⟨g', cap', rfl⟩ := ownsRow_succ hown
    have e2 : (l ++ [p]).flatMap f = l.flatMap f ++ f p := by simp
    exact h g' cap' w' (by rw [e2]; exact hown) hgrow
theorem step_app_w {P : Program} {T e : TypeId} {α : Type} {f : α → List Value} {size : Nat} (hE : ElW P T e f size) {ops : Array Oper} {o : Oper} {a : Act} {w : World} {K : Act → World → Prop} {Q : Exit → Act → World → Prop} {E : Prop} (hgd : o.guard = none) (s x : Operand)
    (ho : o.op = .call { callee := .builtin .append, args := #[s, x], argTypes := #[T, T] }) (base : Nat) (l : List α) (n : Nat) (la : Option Addr) (lc : Nat) (hs : a.eval s = .slice la n lc) (hO : w.ownsRow base e size (.slice la n lc) n (l.flatMap f))
    (p : α) (nb : Nat) (hx : a.eval x = .slice (some ⟨nb, 0, none⟩) 1 1) (hnew : ∀ j u, (f p)[j]? = some u → w.cell? ((⟨nb, 0, none⟩ : Addr).add j) = some u) (hl : n ≤ 1000000000) (hb : base ≤ w.heap.size)
    (h : ∀ g' cap' w', w'.ownsRow base e size (.slice (some ⟨g', 0, none⟩) (n + 1) cap') (n + 1) ((l ++ [p]).flatMap f) → w.grownBy w' (Value.slice la n lc).ownBlock → K (a.put o.dst (.slice (some ⟨g', 0, none⟩) (n + 1) cap')) w') :
    if Region.wanted o (yielded ops a.tmps) = true then Oper.wp P o a w K Q else E := by
  have hw : Region.wanted o (yielded ops a.tmps) = true := by simp [Region.wanted, hgd]
  rw [if_pos hw]
  obtain ⟨i, z, hi, hz, h1, h2, h3⟩ := hE.info
  have hby : (n + 1) * i.bytes ≤ 140737488355328 := by
    have := Nat.mul_le_mul (show n + 1 ≤ 1000000001 by omega) h2
    omega
  obtain ⟨v', w', hr, hown, hgrow, _, _⟩ := run_append_own_at (P := P) w base T o.type e i z size i.bytes hE.row hi hz h1 rfl h3 hE.pos (.slice la n lc) n (l.flatMap f) hO ⟨nb, 0, none⟩ 1 1 (f p) (by rw [hE.len, Nat.one_mul]) hnew (hE.one p) (by unfold maxLen; omega) hby hb
  unfold Oper.wp execOp
  simp only [ho, resolve, invoke, builtin, Sem.run_bind, Sem.run_pure, Result.andThen_ok, List.map_toArray, List.map_cons, List.map_nil, hs, hx, hr]
  obtain ⟨g', cap', rfl⟩ := ownsRow_succ hown
  have e2 : (l ++ [p]).flatMap f = l.flatMap f ++ f p := by simp
  exact h g' cap' w' (by rw [e2]; exact hown) hgrow
end Mem
end Go.Proofs.YtdaindihobfokaaGreatDoor
