/-
App: one element more on a slice of one's own, whatever the element.
AppG: one element more on a slice of one's own, as far as the language's own growth goes.
AppH: AppG's append in a list of operations.
-/
import Derived.Test.YtdaindihobfokaaGreatDoorZaaMbPMem
import Derived.Maps.AppendAt
import Derived.RangeFuncBox
import Derived.Deep.RegionHeld3
namespace Go.Proofs.YtdaindihobfokaaGreatDoor
open Go.RowKit
set_option linter.unusedVariables false
namespace Mem
/-- what is wanted of an element's type -/
structure ElT (P : Program) (T e : TypeId) {α : Type} (f : α → List Value) (size : Nat) : Prop where
  row : P.underlying T = some (.slice e)
  info : ∃ i z, P.info? e = some i ∧ i.zero = some z ∧ i.size = size ∧ i.bytes ≤ 64 ∧ z.cells.size = size
  pos : 0 < size
  len : ∀ x, (f x).length = size
  one : ∀ x, ∀ u ∈ f x, u.oneCell' = true
theorem flatMap_len {α : Type} {f : α → List Value} {size : Nat} (h : ∀ x, (f x).length = size) (l : List α) : (l.flatMap f).length = l.length * size := by
  induction l with
  | nil => simp
  | cons a l ih => rw [List.flatMap_cons, List.length_append, ih, h, List.length_cons, Nat.add_mul]; omega
theorem own_n {w : World} {base : Nat} {e : TypeId} {size n m : Nat} {la : Option Addr} {lc : Nat} {xs : List Value} (h : w.ownsRow base e size (.slice la n lc) n xs) (hn : n = m) : w.ownsRow base e size (.slice la m lc) m xs := hn ▸ h
theorem app_f {P : Program} {T e : TypeId} {α : Type} {f : α → List Value} {size : Nat} (hE : ElT P T e f size) {ops : Array Oper} {rest : List Oper} {o : Oper} {a : Act} {w : World} {Q : Exit → Act → World → Prop} (hgd : o.guard = none) (s x : Operand)
    (ho : o.op = .call { callee := .builtin .append, args := #[s, x], argTypes := #[T, T] }) (base : Nat) (l : List α) (n : Nat) (la : Option Addr) (lc : Nat) (hs : a.eval s = .slice la n lc) (hO : w.ownsRow base e size (.slice la n lc) n (l.flatMap f))
    (p : α) (nb : Nat) (hx : a.eval x = .slice (some ⟨nb, 0, none⟩) 1 1) (hnew : ∀ j u, (f p)[j]? = some u → w.cell? ((⟨nb, 0, none⟩ : Addr).add j) = some u) (hl : n ≤ 1000000000) (hb : base ≤ w.heap.size)
    (h : ∀ g' cap' w', w'.ownsRow base e size (.slice (some ⟨g', 0, none⟩) (n + 1) cap') (n + 1) ((l ++ [p]).flatMap f) → w.grownBy w' (Value.slice la n lc).ownBlock → wpList P ops Q rest (a.put o.dst (.slice (some ⟨g', 0, none⟩) (n + 1) cap')) w') :
    wpList P ops Q (o :: rest) a w := by
  obtain ⟨i, z, hi, hz, h1, h2, h3⟩ := hE.info
  refine wpList_append_own_at w hgd s x T ho base e i z size i.bytes hE.row hi hz h1 rfl h3 hE.pos (.slice la n lc) n (l.flatMap f) hs hO ⟨nb, 0, none⟩ 1 1 (f p) hx (by rw [hE.len, Nat.one_mul]) hnew (hE.one p) (by unfold maxLen; omega) ?_ hb ?_
  · have := Nat.mul_le_mul (show n + 1 ≤ 1000000001 by omega) h2
    omega
  · intro v' w' hown hgrow _ _
    obtain ⟨g', cap', rfl⟩ := ownsRow_succ hown
    have e2 : (l ++ [p]).flatMap f = l.flatMap f ++ f p := by simp
    exact h g' cap' w' (by rw [e2]; exact hown) hgrow
theorem step_app_f {P : Program} {T e : TypeId} {α : Type} {f : α → List Value} {size : Nat} (hE : ElT P T e f size) {ops : Array Oper} {o : Oper} {a : Act} {w : World} {K : Act → World → Prop} {Q : Exit → Act → World → Prop} {E : Prop} (hgd : o.guard = none) (s x : Operand)
    (ho : o.op = .call { callee := .builtin .append, args := #[s, x], argTypes := #[T, T] }) (base : Nat) (l : List α) (n : Nat) (la : Option Addr) (lc : Nat) (hs : a.eval s = .slice la n lc) (hO : w.ownsRow base e size (.slice la n lc) n (l.flatMap f))
    (p : α) (nb : Nat) (hx : a.eval x = .slice (some ⟨nb, 0, none⟩) 1 1) (hnew : ∀ j u, (f p)[j]? = some u → w.cell? ((⟨nb, 0, none⟩ : Addr).add j) = some u) (hl : n ≤ 1000000000) (hb : base ≤ w.heap.size)
    (h : ∀ g' cap' w', w'.ownsRow base e size (.slice (some ⟨g', 0, none⟩) (n + 1) cap') (n + 1) ((l ++ [p]).flatMap f) → w.grownBy w' (Value.slice la n lc).ownBlock → K (a.put o.dst (.slice (some ⟨g', 0, none⟩) (n + 1) cap')) w') :
    if Region.wanted o (yielded ops a.tmps) = true then Oper.wp P o a w K Q else E := by
  have hw : Region.wanted o (yielded ops a.tmps) = true := by simp [Region.wanted, hgd]
  rw [if_pos hw]
  obtain ⟨i, z, hi, hz, h1, h2, h3⟩ := hE.info
  have hby : (n + 1) * i.bytes ≤ 140737488355328 := by
    have := Nat.mul_le_mul (show n + 1 ≤ 1000000001 by omega) h2
    omega
  obtain ⟨v', w', hr, hown, hgrow, _, _⟩ := run_append_own_at (P := P) w base T o.type e i z size i.bytes hE.row hi hz h1 rfl h3 hE.pos (.slice la n lc) n (l.flatMap f) hO ⟨nb, 0, none⟩ 1 1 (f p) (by rw [hE.len, Nat.one_mul]) hnew (hE.one p) (by unfold maxLen; omega) hby hb
  unfold Oper.wp execOp
  simp only [ho, resolve, invoke, builtin, Sem.run_bind, Sem.run_pure, Result.andThen_ok, List.map_toArray, List.map_cons, List.map_nil, hs, hx, hr]
  obtain ⟨g', cap', rfl⟩ := ownsRow_succ hown
  have e2 : (l ++ [p]).flatMap f = l.flatMap f ++ f p := by simp
  exact h g' cap' w' (by rw [e2]; exact hown) hgrow
section
variable {P : Program} {md : Region.Mode} {ops : Array Oper} {Q : Exit → Act → World → Prop} {S : World → Prop}
theorem anyH_one (i : Nat) {o : Oper} {fuel : Nat} {listed : Array Bool} {a : Act} {w : World} (hr : Region.ready md ops listed = [i]) (ho : ops[i]? = some o) (hw : Region.wanted o (yielded ops a.tmps) = true)
    (h : ∀ K' : Act → World → Prop, (∀ a' w', S w' → wpAnyH P md ops Q S fuel (listed.setIfInBounds i true) a' w' → K' a' w') → Oper.wp P o a w K' Q) : wpAnyH P md ops Q S (fuel + 1) listed a w :=
  wpAnyH_ready hr (by simp) (AllReadyH.cons ho (fun K hK => by rw [if_pos hw]; exact h K (fun a w hS hW => hK.out a w hS (fun _ => hW))) AllReadyH.nil)
end
end Mem
end Go.Proofs.YtdaindihobfokaaGreatDoor
namespace Go.Proofs.YtdaindihobfokaaGreatDoor
open Go.RowKit
set_option linter.unusedVariables false
namespace Mem
theorem own_fresh (w : World) (base : Nat) (e : TypeId) (size k cap : Nat) (ys zs : List Value) (hbase : base ≤ w.heap.size) (hk : ys.length = k * size) (hcap : k ≤ cap) (hcm : cap ≤ maxLen) (hz : zs.length = (cap - k) * size) :
    (w.drew.alloc (.cells (ys ++ zs).toArray e)).ownsRow base e size (.slice (some ⟨w.heap.size, 0, none⟩) k cap) k ys := by
  refine ⟨hk, .inr ⟨w.heap.size, cap, (ys ++ zs).toArray, rfl, hbase, heap_alloc_new w.drew _, hcap, hcm, ?_, ?_⟩⟩
  · rw [List.size_toArray, List.length_append, hk, hz, ← Nat.add_mul]
    congr 1; omega
  · rw [List.toList_toArray, ← hk, List.take_left]
theorem run_app_g {P : Program} (w : World) (base : Nat) (t ty e : TypeId) (i : TypeInfo) (z : Value) (size : Nat) (ht : P.underlying t = some (.slice e)) (hi : P.info? e = some i) (hz : i.zero = some z)
    (hsize : i.size = size) (hzs : z.cells.size = size) (hsz : 0 < size) (la : Option Addr) (lc n : Nat) (xs : List Value) (hown : w.ownsRow base e size (.slice la n lc) n xs)
    (a : Addr) (c : Nat) (news : List Value) (hl : news.length = size) (hnews : ∀ j u, news[j]? = some u → w.cell? (a.add j) = some u) (h1 : ∀ u ∈ news, u.oneCell' = true)
    (h63 : n + 1 ≤ maxLen) (hb1 : i.bytes ≤ 281474976710656) (hfit : Builtin.nextslicecap (n + 1) n * i.bytes ≤ 281474976710656) (hbase : base ≤ w.heap.size) :
    ∃ g' cap' w', (Builtin.append_ #[t, t] ty #[.slice la n lc, .slice (some a) 1 c]).run P w = .ok (.slice (some ⟨g', 0, none⟩) (n + 1) cap') w' ∧ w'.ownsRow base e size (.slice (some ⟨g', 0, none⟩) (n + 1) cap') (n + 1) (xs ++ news) ∧ w.grownBy w' (Value.slice la n lc).ownBlock ∧ (la = some ⟨g', 0, none⟩ ∨ g' = w.heap.size) := by
  subst hsize
  have hsmall : n + 1 ≤ 9223372036854775807 := by simp only [maxLen] at h63; omega
  have hl1 : news.length = 1 * i.size := by rw [hl, Nat.one_mul]
  have hlen : (xs ++ news).length = (n + 1) * i.size := by rw [List.length_append, hown.1, hl1, Nat.add_mul]
  have hzl : ∀ k, (Builtin.zeroCells z.cells k).toList.length = k * i.size := fun k => by rw [Array.length_toList, size_zeroCells, hzs]
  rcases hown.2 with ⟨e0, -⟩ | ⟨g, cap, cur, e0, hbg, hg, hnc, hcm, hcs, htake⟩
  · simp only [Value.slice.injEq] at e0
    obtain ⟨rfl, rfl, rfl⟩ := e0
    obtain rfl : xs = [] := List.eq_nil_of_length_eq_zero (by simpa using hown.1)
    have hr := run_append_nil (P := P) w t ty e i z ht hi hz a 1 c news hl1 hnews (by omega) (by omega) (by omega)
    have ho := own_fresh w base e i.size 1 (grownCap w 1 0 e) news (Builtin.zeroCells z.cells (grownCap w 1 0 e - 1)).toList hbase hl1 (grownCap_ge w 1 0 e) (grownCap_le_maxLen w 1 0 e h63) (hzl _)
    refine ⟨_, _, _, hr, ?_, ⟨rfl, rfl, rfl, by simp, fun k hk _ => Below.heap_alloc w.drew _ k hk⟩, .inr rfl⟩
    have ea : news.toArray ++ Builtin.zeroCells z.cells (grownCap w 1 0 e - 1) = (news ++ (Builtin.zeroCells z.cells (grownCap w 1 0 e - 1)).toList).toArray := by simp
    rw [ea]; exact ho
  · simp only [Value.slice.injEq] at e0
    obtain ⟨rfl, -, rfl⟩ := e0
    by_cases hroom : n + 1 ≤ lc
    · have hfit2 : n * i.size + news.length ≤ cur.size := by rw [hl1, hcs, ← Nat.add_mul]; exact Nat.mul_le_mul_right _ hroom
      have hr := run_append_room (P := P) w t ty e i ht hi g n lc cur hg a 1 c news hl1 hnews h1 hroom hfit2
      refine ⟨_, _, _, hr, ⟨hlen, .inr ⟨g, lc, _, rfl, hbg, setRow_heap w g cur _ e _ hg, hroom, hcm, ?_, ?_⟩⟩, ⟨rfl, rfl, rfl, by simp, fun k _ hk => setRow_other w g k _ (fun e => hk (by simp [Value.ownBlock, e]))⟩, .inl rfl⟩
      · simp only [List.size_toArray, List.length_append, List.length_take, List.length_drop, Array.length_toList]
        omega
      · rw [List.toList_toArray, htake, ← hlen, List.take_left]
    · obtain rfl : n = lc := by omega
      have hr := run_append_grow (P := P) w t ty e i z ht hi hz ⟨g, 0, none⟩ n n xs hown.1 (hown.cells (g := g) rfl) a 1 c news hl1 hnews (by omega) (by omega) hfit
      have ho := own_fresh w base e i.size (n + 1) (grownCap w (n + 1) n e) (xs ++ news) (Builtin.zeroCells z.cells (grownCap w (n + 1) n e - (n + 1))).toList hbase hlen (grownCap_ge w (n + 1) n e) (grownCap_le_maxLen w (n + 1) n e h63) (hzl _)
      refine ⟨_, _, _, hr, ?_, ⟨rfl, rfl, rfl, by simp, fun k hk _ => Below.heap_alloc w.drew _ k hk⟩, .inr rfl⟩
      have ea : xs.toArray ++ news.toArray ++ Builtin.zeroCells z.cells (grownCap w (n + 1) n e - (n + 1)) = (xs ++ news ++ (Builtin.zeroCells z.cells (grownCap w (n + 1) n e - (n + 1))).toList).toArray := by simp
      rw [ea]; exact ho
theorem next_le (n : Nat) : Builtin.nextslicecap (n + 1) n ≤ n + n / 4 + 512 := by
  unfold Builtin.nextslicecap
  split
  · omega
  · split
    · omega
    · unfold Builtin.growBy
      rw [if_neg (by omega)]
      unfold Builtin.growBy
      rw [if_pos (by omega)]
      omega
/-- an append in a drawn region -/
theorem step_app_g {P : Program} {T e : TypeId} {α : Type} {f : α → List Value} {size by_ : Nat} (hT : P.underlying T = some (.slice e)) (hinfo : ∃ i z, P.info? e = some i ∧ i.zero = some z ∧ i.size = size ∧ i.bytes = by_ ∧ z.cells.size = size) (hpos : 0 < size) (hlen : ∀ x, (f x).length = size) (hone : ∀ x, ∀ u ∈ f x, u.oneCell' = true)
    {o : Oper} {a : Act} {w : World} {K : Act → World → Prop} {Q : Exit → Act → World → Prop} (s x : Operand)
    (ho : o.op = .call { callee := .builtin .append, args := #[s, x], argTypes := #[T, T] }) (base : Nat) (l : List α) (n : Nat) (la : Option Addr) (lc : Nat) (hs : a.eval s = .slice la n lc) (hO : w.ownsRow base e size (.slice la n lc) n (l.flatMap f))
    (p : α) (nb : Nat) (hx : a.eval x = .slice (some ⟨nb, 0, none⟩) 1 1) (hnew : ∀ j u, (f p)[j]? = some u → w.cell? ((⟨nb, 0, none⟩ : Addr).add j) = some u) (hl : n + 1 ≤ maxLen) (hb1 : by_ ≤ 281474976710656) (hfit : (n + n / 4 + 512) * by_ ≤ 281474976710656) (hb : base ≤ w.heap.size)
    (h : ∀ g' cap' w', w'.ownsRow base e size (.slice (some ⟨g', 0, none⟩) (n + 1) cap') (n + 1) ((l ++ [p]).flatMap f) → w.grownBy w' (Value.slice la n lc).ownBlock → (la = some ⟨g', 0, none⟩ ∨ g' = w.heap.size) → K (a.put o.dst (.slice (some ⟨g', 0, none⟩) (n + 1) cap')) w') :
    Oper.wp P o a w K Q := by
  obtain ⟨i, z, hi, hz, h1, h2, h3⟩ := hinfo
  subst h2
  obtain ⟨g', cap', w', hr, hown, hgrow, hat⟩ := run_app_g (P := P) w base T o.type e i z size hT hi hz h1 h3 hpos la lc n (l.flatMap f) hO ⟨nb, 0, none⟩ 1 (f p) (hlen p) hnew (hone p) hl hb1 (Nat.le_trans (Nat.mul_le_mul_right _ (next_le n)) hfit) hb
  unfold Oper.wp execOp
  simp only [ho, resolve, invoke, builtin, Sem.run_bind, Sem.run_pure, Result.andThen_ok, List.map_toArray, List.map_cons, List.map_nil, hs, hx, hr]
  have e2 : (l ++ [p]).flatMap f = l.flatMap f ++ f p := by simp
  exact h g' cap' w' (by rw [e2]; exact hown) hgrow hat
end Mem
end Go.Proofs.YtdaindihobfokaaGreatDoor
namespace Go.Proofs.YtdaindihobfokaaGreatDoor
open Go.RowKit
set_option linter.unusedVariables false
namespace Mem
theorem app_g {P : Program} {T e : TypeId} {α : Type} {f : α → List Value} {size by_ : Nat} (hT : P.underlying T = some (.slice e)) (hinfo : ∃ i z, P.info? e = some i ∧ i.zero = some z ∧ i.size = size ∧ i.bytes = by_ ∧ z.cells.size = size) (hpos : 0 < size) (hlen : ∀ x, (f x).length = size) (hone : ∀ x, ∀ u ∈ f x, u.oneCell' = true)
    {ops : Array Oper} {rest : List Oper} {o : Oper} {a : Act} {w : World} {Q : Exit → Act → World → Prop} (hgd : o.guard = none) (s x : Operand)
    (ho : o.op = .call { callee := .builtin .append, args := #[s, x], argTypes := #[T, T] }) (base : Nat) (l : List α) (n : Nat) (la : Option Addr) (lc : Nat) (hs : a.eval s = .slice la n lc) (hO : w.ownsRow base e size (.slice la n lc) n (l.flatMap f))
    (p : α) (nb : Nat) (hx : a.eval x = .slice (some ⟨nb, 0, none⟩) 1 1) (hnew : ∀ j u, (f p)[j]? = some u → w.cell? ((⟨nb, 0, none⟩ : Addr).add j) = some u) (hl : n + 1 ≤ maxLen) (hb1 : by_ ≤ 281474976710656) (hfit : (n + n / 4 + 512) * by_ ≤ 281474976710656) (hb : base ≤ w.heap.size)
    (h : ∀ g' cap' w', w'.ownsRow base e size (.slice (some ⟨g', 0, none⟩) (n + 1) cap') (n + 1) ((l ++ [p]).flatMap f) → w.grownBy w' (Value.slice la n lc).ownBlock → wpList P ops Q rest (a.put o.dst (.slice (some ⟨g', 0, none⟩) (n + 1) cap')) w') :
    wpList P ops Q (o :: rest) a w :=
  wpList_plain hgd fun K hK => step_app_g hT hinfo hpos hlen hone s x ho base l n la lc hs hO p nb hx hnew hl hb1 hfit hb (fun g' cap' w' h1 h2 _ => hK _ _ (h g' cap' w' h1 h2))
end Mem
end Go.Proofs.YtdaindihobfokaaGreatDoor
