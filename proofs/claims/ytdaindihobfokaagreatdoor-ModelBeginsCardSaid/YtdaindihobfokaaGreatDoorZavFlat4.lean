/-
Flat4: what came in of a type whose leaves are whole numbers and floats, opened to its cells; a slice of such.
-/
import Derived.WalkKit
import Derived.ProofKit
import Derived.OpenShut
import Derived.ChangeOld
import Derived.Below
import Derived.ChangeArms
namespace Go.Proofs.YtdaindihobfokaaGreatDoor
open Go.ChangeShapes Go.WideShapes Go.ChangeAt Go.RowKit
set_option linter.unusedVariables false
namespace FlatF
inductive Lf where
  | i (k : IntKind)
  | f (k : FloatKind)
def flatFs (go : TypeId → Option (List Lf)) (P : Program) : Nat → List Field → Option (List Lf)
  | _, [] => some []
  | o, f :: fs => if f.offset = o then
      match go f.type with
      | some a => if a.length = P.cellsOf f.type then
          match flatFs go P (o + P.cellsOf f.type) fs with
          | some b => some (a ++ b)
          | none => none
        else none
      | none => none
    else none
def flat (P : Program) : Nat → TypeId → Option (List Lf)
  | 0, _ => none
  | n + 1, t => match P.underlying t with
    | some (.int k) => some [.i k]
    | some (.float k) => some [.f k]
    | some (.struct fs) => match flatFs (flat P n) P 0 fs.toList with
      | some ks => if ks.length = P.cellsOf t then some ks else none
      | none => none
    | _ => none
/-- The cells are whole numbers of these kinds, each fitting its kind. -/
def Ints : List Lf → List Value → Prop
  | [], cs => cs = []
  | .i k :: ks, cs => ∃ n cs', cs = .int k n :: cs' ∧ (Lit.int k n).wf = true ∧ Ints ks cs'
  | .f k :: ks, cs => ∃ n cs', cs = .float k n :: cs' ∧ (Lit.float k n).wf = true ∧ Ints ks cs'
theorem trod_float {H : Type} {enc : TypeId × Value → H} {P : Program} {w : World} {base : Nat} {spare : Nat → Bool} {held : Bool} {fuel : Nat} {t : TypeId} {cs : List Value} {x : DataW H × List MemPlace} {k : FloatKind} (ht : P.underlying t = some (.float k)) (h : DataW.trod enc P w base spare held fuel t cs = some x) : ∃ n, cs = [.float k n] ∧ (Lit.float k n).wf = true := by
  cases fuel with
  | zero => simp [DataW.trod] at h
  | succ n =>
    unfold DataW.trod at h
    rw [ht] at h
    split at h <;> simp_all
theorem Ints.append {a b : List Lf} {c d : List Value} (h : Ints a c) (g : Ints b d) : Ints (a ++ b) (c ++ d) := by
  induction a generalizing c with
  | nil => cases h; exact g
  | cons k ks ih =>
    cases k <;>
    · obtain ⟨n, cs', rfl, hw, h'⟩ := h
      exact ⟨n, cs' ++ d, rfl, hw, ih h'⟩
theorem Ints.length {a : List Lf} {c : List Value} (h : Ints a c) : c.length = a.length := by
  induction a generalizing c with
  | nil => cases h; rfl
  | cons k ks ih =>
    cases k <;>
    · obtain ⟨n, cs', rfl, hw, h'⟩ := h
      simp [ih h']
variable {H : Type} {enc : TypeId × Value → H} {P : Program} {w : World} {base : Nat} {spare : Nat → Bool} {held : Bool}
theorem flatFs_open (go : TypeId → Option (List Lf)) (Q : TypeId → List Value → Prop) (hQ : ∀ t ks cs, go t = some ks → Q t cs → Ints ks cs) (cs : List Value) :
    ∀ (fs : List Field) (o : Nat) (ks : List Lf), flatFs go P o fs = some ks → (∀ f ∈ fs, Q f.type ((cs.drop f.offset).take (P.cellsOf f.type))) → cs.length = o + ks.length → Ints ks (cs.drop o) := by
  intro fs
  induction fs with
  | nil =>
    intro o ks h _ hl
    simp only [flatFs, Option.some.injEq] at h
    subst h
    exact List.drop_eq_nil_of_le (by simpa using Nat.le_of_eq hl)
  | cons f fs ih =>
    intro o ks h hf hl
    simp only [flatFs] at h
    split at h
    · rename_i ho
      split at h
      · rename_i a ha
        split at h
        · rename_i hal
          split at h
          · rename_i b hb
            cases h
            have h1 := hQ _ _ _ ha (hf f (by simp))
            rw [ho] at h1
            have h2 := ih (o + P.cellsOf f.type) b hb (fun g hg => hf g (by simp [hg])) (by simp only [List.length_append] at hl; omega)
            rw [← List.drop_drop] at h2
            have := h1.append h2
            rwa [List.take_append_drop] at this
          · cases h
        · cases h
      · cases h
    · cases h
theorem flat_open : ∀ (n : Nat) (t : TypeId) (ks : List Lf) (fuel : Nat) (cs : List Value) (x : DataW H × List MemPlace), flat P n t = some ks → DataW.trod enc P w base spare held fuel t cs = some x → Ints ks cs := by
  intro n
  induction n with
  | zero => intro t ks fuel cs x h; cases h
  | succ n ih =>
    intro t ks fuel cs x h hx
    simp only [flat] at h
    split at h
    · rename_i k ht
      cases h
      obtain ⟨m, rfl, _, hw⟩ := DataW.trod_int ht hx
      exact ⟨m, [], rfl, hw, rfl⟩
    · rename_i k ht
      cases h
      obtain ⟨m, rfl, hw⟩ := trod_float ht hx
      exact ⟨m, [], rfl, hw, rfl⟩
    · rename_i fs ht
      split at h
      · rename_i ks' hks
        split at h
        · rename_i hlen
          cases h
          obtain ⟨xs, m, rfl, _, hcl, hxl, hfs⟩ := DataW.trod_struct ht hx
          have := flatFs_open (P := P) (flat P n) (fun t cs => ∃ f x, DataW.trod enc P w base spare held f t cs = some x) (fun t ks cs h ⟨f, x, hx⟩ => ih t ks f cs x h hx) cs fs.toList 0 ks hks
            (fun f hf => by
              obtain ⟨i, hi, rfl⟩ := List.getElem_of_mem hf
              simp only [Array.length_toList] at hi
              have h1 := hfs i fs[i] (by simp [hi])
              exact ⟨m, xs[i]'(by omega), by simpa using h1.trans (List.getElem?_eq_getElem (by omega))⟩) (by omega)
          simpa using this
        · cases h
      · cases h
    · cases h
theorem flat_slice {n : Nat} {t e : TypeId} {ks : List Lf} {fuel : Nat} {cs : List Value} {x : DataW H × List MemPlace} (ht : P.underlying t = some (.slice e)) (he : flat P n e = some ks) (hm : P.cellsOf e = ks.length) (h0 : 0 < ks.length) (h : DataW.trod enc P w base spare held fuel t cs = some x) :
    ∃ (a : Option Addr) (rows : List (List Value)) (cap : Nat), cs = [.slice a rows.length cap] ∧ rows.length ≤ cap ∧ rows.length ≤ maxLen ∧ (∀ r ∈ rows, Ints ks r) ∧ ∀ i r, rows[i]? = some r → ∃ b off, a = some ⟨b, off, none⟩ ∧ b < w.heap.size ∧ ∀ j u, r[j]? = some u → w.cell? ⟨b, off + i * ks.length + j, none⟩ = some u := by
  rcases DataW.trod_slice ht h with ⟨rfl, _⟩ | ⟨a, len, cap, elems, rest, m, _, rfl, rfl, hb, hl, hmx, hlen, hel, hsp, hns⟩
  · exact ⟨none, [], 0, rfl, Nat.zero_le _, Nat.zero_le _, by simp, by simp⟩
  have each : ∀ i, i < len → ∃ r, w.cells? base (a.add (i * ks.length)) ks.length = some r ∧ Ints ks r := fun i hi => by
    have h1 := hel i hi
    rw [List.getElem?_eq_getElem (by omega), Option.bind_eq_some_iff] at h1
    obtain ⟨r, hr, hx⟩ := h1
    rw [hm] at hr
    exact ⟨r, hr, flat_open n e ks m r _ he hx⟩
  refine ⟨some a, (List.range len).map fun i => (w.cells? base (a.add (i * ks.length)) ks.length).getD [], cap, by simp, by simp; omega, by simp; omega, ?_, ?_⟩
  · intro r hr
    obtain ⟨i, hi, rfl⟩ := List.mem_map.1 hr
    obtain ⟨r, hr, hI⟩ := each i (List.mem_range.1 hi)
    rw [hr]; exact hI
  · intro i r hr
    have hi : i < len := by
      have := (List.getElem?_eq_some_iff.1 hr).1
      simpa using this
    obtain ⟨r', hr', hI⟩ := each i hi
    simp only [List.getElem?_map, List.getElem?_range hi, Option.map_some, hr', Option.getD_some, Option.some.injEq] at hr
    subst hr
    obtain ⟨hb', hl', hc⟩ := World.cells?_some hr'
    have hc0 := hc 0 h0
    have hlt : 0 < r'.length := by omega
    rw [List.getElem?_eq_getElem hlt] at hc0
    obtain ⟨b, off, spot⟩ := a
    have hspot : spot = none := by
      obtain ⟨r0, hr0, _⟩ := each 0 (by omega)
      obtain ⟨_, hl0, hz⟩ := World.cells?_some hr0
      have hz0 := hz 0 h0
      rw [List.getElem?_eq_getElem (by omega)] at hz0
      have := World.cell?_spot hz0
      simpa [Addr.add] using this
    subst hspot
    refine ⟨b, off, rfl, ?_, fun j u hj => ?_⟩
    · rw [add_plain, add_plain] at hc0
      unfold World.cell? at hc0
      split at hc0
      · rename_i hh; exact (Array.getElem?_eq_some_iff.1 hh).1
      · cases hc0
    · have hjl : j < ks.length := by have := (List.getElem?_eq_some_iff.1 hj).1; omega
      have := hc j hjl
      rw [add_plain, add_plain] at this
      rw [this, hj]
end FlatF
end Go.Proofs.YtdaindihobfokaaGreatDoor
