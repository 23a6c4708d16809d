/-
  Flat: what came in of a type whose leaves are all whole numbers, opened to its cells.
-/
import Derived.WalkKit
import Derived.ProofKit
import Derived.OpenShut
import Derived.ChangeOld
import Derived.Below
import Derived.ChangeArms
namespace Go.Proofs.Ytppiohmnbffndaa
open Go.ChangeShapes Go.WideShapes Go.ChangeAt Go.RowKit
set_option linter.unusedVariables false
namespace Flat
def flatFs (go : TypeId → Option (List IntKind)) (P : Program) : Nat → List Field → Option (List IntKind)
  | _, [] => some []
  | o, f :: fs => if f.offset = o then
      match go f.type with
      | some a => if a.length = P.cellsOf f.type then
          match flatFs go P (o + P.cellsOf f.type) fs with
          | some b => some (a ++ b)
          | none => none
        else none
      | none => none
    else none
def flat (P : Program) : Nat → TypeId → Option (List IntKind)
  | 0, _ => none
  | n + 1, t => match P.underlying t with
    | some (.int k) => some [k]
    | some (.struct fs) => match flatFs (flat P n) P 0 fs.toList with
      | some ks => if ks.length = P.cellsOf t then some ks else none
      | none => none
    | _ => none
/-- The cells are whole numbers of these kinds, each fitting its kind. -/
def Ints : List IntKind → List Value → Prop
  | [], cs => cs = []
  | k :: ks, cs => ∃ n cs', cs = .int k n :: cs' ∧ (Lit.int k n).wf = true ∧ Ints ks cs'
theorem Ints.append {a b : List IntKind} {c d : List Value} (h : Ints a c) (g : Ints b d) : Ints (a ++ b) (c ++ d) := by
  induction a generalizing c with
  | nil => cases h; exact g
  | cons k ks ih =>
    obtain ⟨n, cs', rfl, hw, h'⟩ := h
    exact ⟨n, cs' ++ d, rfl, hw, ih h'⟩
theorem Ints.length {a : List IntKind} {c : List Value} (h : Ints a c) : c.length = a.length := by
  induction a generalizing c with
  | nil => cases h; rfl
  | cons k ks ih =>
    obtain ⟨n, cs', rfl, hw, h'⟩ := h
    simp [ih h']
variable {H : Type} {enc : TypeId × Value → H} {P : Program} {w : World} {base : Nat} {spare : Nat → Bool} {held : Bool}
theorem flatFs_open (go : TypeId → Option (List IntKind)) (Q : TypeId → List Value → Prop) (hQ : ∀ t ks cs, go t = some ks → Q t cs → Ints ks cs) (cs : List Value) :
    ∀ (fs : List Field) (o : Nat) (ks : List IntKind), flatFs go P o fs = some ks → (∀ f ∈ fs, Q f.type ((cs.drop f.offset).take (P.cellsOf f.type))) → cs.length = o + ks.length → Ints ks (cs.drop o) := by
  intro fs
  induction fs with
  | nil =>
    intro o ks h _ hl
    simp only [flatFs, Option.some.injEq] at h
    subst h
    exact List.drop_eq_nil_of_le (by simpa using Nat.le_of_eq hl)
  | cons f fs ih =>
    intro o ks h hf hl
    simp only [flatFs] at h
    split at h
    · rename_i ho
      split at h
      · rename_i a ha
        split at h
        · rename_i hal
          split at h
          · rename_i b hb
            cases h
            have h1 := hQ _ _ _ ha (hf f (by simp))
            rw [ho] at h1
            have h2 := ih (o + P.cellsOf f.type) b hb (fun g hg => hf g (by simp [hg])) (by simp only [List.length_append] at hl; omega)
            rw [← List.drop_drop] at h2
            have := h1.append h2
            rwa [List.take_append_drop] at this
          · cases h
        · cases h
      · cases h
    · cases h
theorem flat_open : ∀ (n : Nat) (t : TypeId) (ks : List IntKind) (fuel : Nat) (cs : List Value) (x : DataW H × List MemPlace), flat P n t = some ks → DataW.trod enc P w base spare held fuel t cs = some x → Ints ks cs := by
  intro n
  induction n with
  | zero => intro t ks fuel cs x h; cases h
  | succ n ih =>
    intro t ks fuel cs x h hx
    simp only [flat] at h
    split at h
    · rename_i k ht
      cases h
      obtain ⟨m, rfl, _, hw⟩ := DataW.trod_int ht hx
      exact ⟨m, [], rfl, hw, rfl⟩
    · rename_i fs ht
      split at h
      · rename_i ks' hks
        split at h
        · rename_i hlen
          cases h
          obtain ⟨xs, m, rfl, _, hcl, hxl, hfs⟩ := DataW.trod_struct ht hx
          have := flatFs_open (P := P) (flat P n) (fun t cs => ∃ f x, DataW.trod enc P w base spare held f t cs = some x) (fun t ks cs h ⟨f, x, hx⟩ => ih t ks f cs x h hx) cs fs.toList 0 ks hks
            (fun f hf => by
              obtain ⟨i, hi, rfl⟩ := List.getElem_of_mem hf
              simp only [Array.length_toList] at hi
              have h1 := hfs i fs[i] (by simp [hi])
              exact ⟨m, xs[i]'(by omega), by simpa using h1.trans (List.getElem?_eq_getElem (by omega))⟩) (by omega)
          simpa using this
        · cases h
      · cases h
    · cases h
end Flat
end Go.Proofs.Ytppiohmnbffndaa
