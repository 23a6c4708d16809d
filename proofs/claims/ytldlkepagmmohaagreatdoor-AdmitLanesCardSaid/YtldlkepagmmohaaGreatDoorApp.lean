/-
  App: one element more on a slice of one's own, whatever the element.
-/
import Derived.Test.YtldlkepagmmohaaGreatDoorMem
import Derived.Maps.AppendAt
import Derived.RangeFuncBox
import Derived.Deep.RegionHeld3
namespace Go.Proofs.YtldlkepagmmohaaGreatDoor
open Go.RowKit
set_option linter.unusedVariables false
namespace Mem
/-- what is wanted of an element's type -/
structure ElT (P : Program) (T e : TypeId) {α : Type} (f : α → List Value) (size : Nat) : Prop where
  row : P.underlying T = some (.slice e)
  info : ∃ i z, P.info? e = some i ∧ i.zero = some z ∧ i.size = size ∧ i.bytes ≤ 64 ∧ z.cells.size = size
  pos : 0 < size
  len : ∀ x, (f x).length = size
  one : ∀ x, ∀ u ∈ f x, u.oneCell' = true
theorem flatMap_len {α : Type} {f : α → List Value} {size : Nat} (h : ∀ x, (f x).length = size) (l : List α) : (l.flatMap f).length = l.length * size := by
  induction l with
  | nil => simp
  | cons a l ih => rw [List.flatMap_cons, List.length_append, ih, h, List.length_cons, Nat.add_mul]; omega
theorem own_n {w : World} {base : Nat} {e : TypeId} {size n m : Nat} {la : Option Addr} {lc : Nat} {xs : List Value} (h : w.ownsRow base e size (.slice la n lc) n xs) (hn : n = m) : w.ownsRow base e size (.slice la m lc) m xs := hn ▸ h
theorem app_f {P : Program} {T e : TypeId} {α : Type} {f : α → List Value} {size : Nat} (hE : ElT P T e f size) {ops : Array Oper} {rest : List Oper} {o : Oper} {a : Act} {w : World} {Q : Exit → Act → World → Prop} (hgd : o.guard = none) (s x : Operand)
    (ho : o.op = .call { callee := .builtin .append, args := #[s, x], argTypes := #[T, T] }) (base : Nat) (l : List α) (n : Nat) (la : Option Addr) (lc : Nat) (hs : a.eval s = .slice la n lc) (hO : w.ownsRow base e size (.slice la n lc) n (l.flatMap f))
    (p : α) (nb : Nat) (hx : a.eval x = .slice (some ⟨nb, 0, none⟩) 1 1) (hnew : ∀ j u, (f p)[j]? = some u → w.cell? ((⟨nb, 0, none⟩ : Addr).add j) = some u) (hl : n ≤ 1000000000) (hb : base ≤ w.heap.size)
    (h : ∀ g' cap' w', w'.ownsRow base e size (.slice (some ⟨g', 0, none⟩) (n + 1) cap') (n + 1) ((l ++ [p]).flatMap f) → w.grownBy w' (Value.slice la n lc).ownBlock → wpList P ops Q rest (a.put o.dst (.slice (some ⟨g', 0, none⟩) (n + 1) cap')) w') :
    wpList P ops Q (o :: rest) a w := by
  obtain ⟨i, z, hi, hz, h1, h2, h3⟩ := hE.info
  refine wpList_append_own_at w hgd s x T ho base e i z size i.bytes hE.row hi hz h1 rfl h3 hE.pos (.slice la n lc) n (l.flatMap f) hs hO ⟨nb, 0, none⟩ 1 1 (f p) hx (by rw [hE.len, Nat.one_mul]) hnew (hE.one p) (by unfold maxLen; omega) ?_ hb ?_
  · have := Nat.mul_le_mul (show n + 1 ≤ 1000000001 by omega) h2
    omega
  · intro v' w' hown hgrow _ _
    obtain ⟨g', cap', rfl⟩ := ownsRow_succ hown
    have e2 : (l ++ [p]).flatMap f = l.flatMap f ++ f p := by simp
    exact h g' cap' w' (by rw [e2]; exact hown) hgrow
theorem step_app_f {P : Program} {T e : TypeId} {α : Type} {f : α → List Value} {size : Nat} (hE : ElT P T e f size) {ops : Array Oper} {o : Oper} {a : Act} {w : World} {K : Act → World → Prop} {Q : Exit → Act → World → Prop} {E : Prop} (hgd : o.guard = none) (s x : Operand)
    (ho : o.op = .call { callee := .builtin .append, args := #[s, x], argTypes := #[T, T] }) (base : Nat) (l : List α) (n : Nat) (la : Option Addr) (lc : Nat) (hs : a.eval s = .slice la n lc) (hO : w.ownsRow base e size (.slice la n lc) n (l.flatMap f))
    (p : α) (nb : Nat) (hx : a.eval x = .slice (some ⟨nb, 0, none⟩) 1 1) (hnew : ∀ j u, (f p)[j]? = some u → w.cell? ((⟨nb, 0, none⟩ : Addr).add j) = some u) (hl : n ≤ 1000000000) (hb : base ≤ w.heap.size)
    (h : ∀ g' cap' w', w'.ownsRow base e size (.slice (some ⟨g', 0, none⟩) (n + 1) cap') (n + 1) ((l ++ [p]).flatMap f) → w.grownBy w' (Value.slice la n lc).ownBlock → K (a.put o.dst (.slice (some ⟨g', 0, none⟩) (n + 1) cap')) w') :
    if Region.wanted o (yielded ops a.tmps) = true then Oper.wp P o a w K Q else E := by
  have hw : Region.wanted o (yielded ops a.tmps) = true := by simp [Region.wanted, hgd]
  rw [if_pos hw]
  obtain ⟨i, z, hi, hz, h1, h2, h3⟩ := hE.info
  have hby : (n + 1) * i.bytes ≤ 140737488355328 := by
    have := Nat.mul_le_mul (show n + 1 ≤ 1000000001 by omega) h2
    omega
  obtain ⟨v', w', hr, hown, hgrow, _, _⟩ := run_append_own_at (P := P) w base T o.type e i z size i.bytes hE.row hi hz h1 rfl h3 hE.pos (.slice la n lc) n (l.flatMap f) hO ⟨nb, 0, none⟩ 1 1 (f p) (by rw [hE.len, Nat.one_mul]) hnew (hE.one p) (by unfold maxLen; omega) hby hb
  unfold Oper.wp execOp
  simp only [ho, resolve, invoke, builtin, Sem.run_bind, Sem.run_pure, Result.andThen_ok, List.map_toArray, List.map_cons, List.map_nil, hs, hx, hr]
  obtain ⟨g', cap', rfl⟩ := ownsRow_succ hown
  have e2 : (l ++ [p]).flatMap f = l.flatMap f ++ f p := by simp
  exact h g' cap' w' (by rw [e2]; exact hown) hgrow
section
variable {P : Program} {md : Region.Mode} {ops : Array Oper} {Q : Exit → Act → World → Prop} {S : World → Prop}
theorem anyH_one (i : Nat) {o : Oper} {fuel : Nat} {listed : Array Bool} {a : Act} {w : World} (hr : Region.ready md ops listed = [i]) (ho : ops[i]? = some o) (hw : Region.wanted o (yielded ops a.tmps) = true)
    (h : ∀ K' : Act → World → Prop, (∀ a' w', S w' → wpAnyH P md ops Q S fuel (listed.setIfInBounds i true) a' w' → K' a' w') → Oper.wp P o a w K' Q) : wpAnyH P md ops Q S (fuel + 1) listed a w :=
  wpAnyH_ready hr (by simp) (AllReadyH.cons ho (fun K hK => by rw [if_pos hw]; exact h K (fun a w hS hW => hK.out a w hS (fun _ => hW))) AllReadyH.nil)
end
end Mem
end Go.Proofs.YtldlkepagmmohaaGreatDoor
