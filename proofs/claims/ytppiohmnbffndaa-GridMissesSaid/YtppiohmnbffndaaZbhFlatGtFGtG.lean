/-
Flat: what came in of a type whose leaves are all whole numbers, opened to its cells.
GtF: GridMisses, of anything.
GtG: what came in of GridMisses, opened.
-/
import Derived.WalkKit
import Derived.ProofKit
import Derived.OpenShut
import Derived.ChangeOld
import Derived.Below
import Derived.ChangeArms
import Derived.Test.YtppiohmnbffndaaZbgGtE
namespace Go.Proofs.Ytppiohmnbffndaa
open Go.ChangeShapes Go.WideShapes Go.ChangeAt Go.RowKit
set_option linter.unusedVariables false
namespace Flat
def flatFs (go : TypeId → Option (List IntKind)) (P : Program) : Nat → List Field → Option (List IntKind)
  | _, [] => some []
  | o, f :: fs => if f.offset = o then
      match go f.type with
      | some a => if a.length = P.cellsOf f.type then
          match flatFs go P (o + P.cellsOf f.type) fs with
          | some b => some (a ++ b)
          | none => none
        else none
      | none => none
    else none
def flat (P : Program) : Nat → TypeId → Option (List IntKind)
  | 0, _ => none
  | n + 1, t => match P.underlying t with
    | some (.int k) => some [k]
    | some (.struct fs) => match flatFs (flat P n) P 0 fs.toList with
      | some ks => if ks.length = P.cellsOf t then some ks else none
      | none => none
    | _ => none
/-- The cells are whole numbers of these kinds, each fitting its kind. -/
def Ints : List IntKind → List Value → Prop
  | [], cs => cs = []
  | k :: ks, cs => ∃ n cs', cs = .int k n :: cs' ∧ (Lit.int k n).wf = true ∧ Ints ks cs'
theorem Ints.append {a b : List IntKind} {c d : List Value} (h : Ints a c) (g : Ints b d) : Ints (a ++ b) (c ++ d) := by
  induction a generalizing c with
  | nil => cases h; exact g
  | cons k ks ih =>
    obtain ⟨n, cs', rfl, hw, h'⟩ := h
    exact ⟨n, cs' ++ d, rfl, hw, ih h'⟩
theorem Ints.length {a : List IntKind} {c : List Value} (h : Ints a c) : c.length = a.length := by
  induction a generalizing c with
  | nil => cases h; rfl
  | cons k ks ih =>
    obtain ⟨n, cs', rfl, hw, h'⟩ := h
    simp [ih h']
variable {H : Type} {enc : TypeId × Value → H} {P : Program} {w : World} {base : Nat} {spare : Nat → Bool} {held : Bool}
theorem flatFs_open (go : TypeId → Option (List IntKind)) (Q : TypeId → List Value → Prop) (hQ : ∀ t ks cs, go t = some ks → Q t cs → Ints ks cs) (cs : List Value) :
    ∀ (fs : List Field) (o : Nat) (ks : List IntKind), flatFs go P o fs = some ks → (∀ f ∈ fs, Q f.type ((cs.drop f.offset).take (P.cellsOf f.type))) → cs.length = o + ks.length → Ints ks (cs.drop o) := by
  intro fs
  induction fs with
  | nil =>
    intro o ks h _ hl
    simp only [flatFs, Option.some.injEq] at h
    subst h
    exact List.drop_eq_nil_of_le (by simpa using Nat.le_of_eq hl)
  | cons f fs ih =>
    intro o ks h hf hl
    simp only [flatFs] at h
    split at h
    · rename_i ho
      split at h
      · rename_i a ha
        split at h
        · rename_i hal
          split at h
          · rename_i b hb
            cases h
            have h1 := hQ _ _ _ ha (hf f (by simp))
            rw [ho] at h1
            have h2 := ih (o + P.cellsOf f.type) b hb (fun g hg => hf g (by simp [hg])) (by simp only [List.length_append] at hl; omega)
            rw [← List.drop_drop] at h2
            have := h1.append h2
            rwa [List.take_append_drop] at this
          · cases h
        · cases h
      · cases h
    · cases h
theorem flat_open : ∀ (n : Nat) (t : TypeId) (ks : List IntKind) (fuel : Nat) (cs : List Value) (x : DataW H × List MemPlace), flat P n t = some ks → DataW.trod enc P w base spare held fuel t cs = some x → Ints ks cs := by
  intro n
  induction n with
  | zero => intro t ks fuel cs x h; cases h
  | succ n ih =>
    intro t ks fuel cs x h hx
    simp only [flat] at h
    split at h
    · rename_i k ht
      cases h
      obtain ⟨m, rfl, _, hw⟩ := DataW.trod_int ht hx
      exact ⟨m, [], rfl, hw, rfl⟩
    · rename_i fs ht
      split at h
      · rename_i ks' hks
        split at h
        · rename_i hlen
          cases h
          obtain ⟨xs, m, rfl, _, hcl, hxl, hfs⟩ := DataW.trod_struct ht hx
          have := flatFs_open (P := P) (flat P n) (fun t cs => ∃ f x, DataW.trod enc P w base spare held f t cs = some x) (fun t ks cs h ⟨f, x, hx⟩ => ih t ks f cs x h hx) cs fs.toList 0 ks hks
            (fun f hf => by
              obtain ⟨i, hi, rfl⟩ := List.getElem_of_mem hf
              simp only [Array.length_toList] at hi
              have h1 := hfs i fs[i] (by simp [hi])
              exact ⟨m, xs[i]'(by omega), by simpa using h1.trans (List.getElem?_eq_getElem (by omega))⟩) (by omega)
          simpa using this
        · cases h
      · cases h
    · cases h
end Flat
end Go.Proofs.Ytppiohmnbffndaa
namespace Go.Proofs.Ytppiohmnbffndaa
open Go.RowKit Go.Shelf
set_option linter.unusedVariables false
namespace Gs
open Mem Gr
theorem misses_any (w : World) (s : Int) (a : Option Addr) (rows : List Bx) (cap : Nat) (px py qx qy : Int) (wh : Nat) (hwh : wh < 256) (hrows : RowsB w a rows) (hl : rows.length ≤ 9223372036854775807) :
    Calls Try.prog 3 #[.agg #[.int .i64 s, .slice a rows.length cap, .int .i32 px, .int .i32 py, .int .i32 qx, .int .i32 qy, .int .u8 (wh : Int)]] w fun e w' => e = .returned (.bool true) ∧ Below w.heap.size w w' := by
  have fin : Calls Try.prog 3 #[.agg #[.int .i64 s, .slice a rows.length cap, .int .i32 px, .int .i32 py, .int .i32 qx, .int .i32 qy, .int .u8 (wh : Int)]] w (fun e w' => e = .returned (.bool true) ∧ Keeps (fun k => w.heap.size ≤ k) w w') := by
    by_cases hs : Size s
    · by_cases hp : On px py
      · by_cases hq : On qx qy
        · exact misses_on w s a rows cap px py qx qy wh hwh hs hp hq hrows hl
        · exact misses_offq w s a rows cap px py qx qy wh hs hp hq
      · exact misses_offp w s a rows cap px py qx qy wh hs hp
    · exact misses_nosize w s a rows cap px py qx qy wh hs
  exact Calls.mono fin fun e w' ⟨h1, h2⟩ => ⟨h1, h2.below (Nat.le_refl _) (fun k hk h => by omega)⟩
end Gs
end Go.Proofs.Ytppiohmnbffndaa
namespace Go.Proofs.Ytppiohmnbffndaa
open Go.ChangeShapes Go.WideShapes Go.ChangeAt Go.RowKit
set_option linter.unusedVariables false
namespace Flat
variable {H : Type} {enc : TypeId × Value → H} {P : Program} {w : World} {base : Nat} {spare : Nat → Bool} {held : Bool}
theorem flat_slice {n : Nat} {t e : TypeId} {ks : List IntKind} {fuel : Nat} {cs : List Value} {x : DataW H × List MemPlace} (ht : P.underlying t = some (.slice e)) (he : flat P n e = some ks) (hm : P.cellsOf e = ks.length) (h0 : 0 < ks.length) (h : DataW.trod enc P w base spare held fuel t cs = some x) :
    ∃ (a : Option Addr) (rows : List (List Value)) (cap : Nat), cs = [.slice a rows.length cap] ∧ rows.length ≤ maxLen ∧ (∀ r ∈ rows, Ints ks r) ∧ ∀ i r, rows[i]? = some r → ∃ b off, a = some ⟨b, off, none⟩ ∧ b < w.heap.size ∧ ∀ j u, r[j]? = some u → w.cell? ⟨b, off + i * ks.length + j, none⟩ = some u := by
  rcases DataW.trod_slice ht h with ⟨rfl, _⟩ | ⟨a, len, cap, elems, rest, m, _, rfl, rfl, hb, hl, hmx, hlen, hel, hsp, hns⟩
  · exact ⟨none, [], 0, rfl, Nat.zero_le _, by simp, by simp⟩
  have each : ∀ i, i < len → ∃ r, w.cells? base (a.add (i * ks.length)) ks.length = some r ∧ Ints ks r := fun i hi => by
    have h1 := hel i hi
    rw [List.getElem?_eq_getElem (by omega), Option.bind_eq_some_iff] at h1
    obtain ⟨r, hr, hx⟩ := h1
    rw [hm] at hr
    exact ⟨r, hr, flat_open n e ks m r _ he hx⟩
  refine ⟨some a, (List.range len).map fun i => (w.cells? base (a.add (i * ks.length)) ks.length).getD [], cap, by simp, by simp; omega, ?_, ?_⟩
  · intro r hr
    obtain ⟨i, hi, rfl⟩ := List.mem_map.1 hr
    obtain ⟨r, hr, hI⟩ := each i (List.mem_range.1 hi)
    rw [hr]; exact hI
  · intro i r hr
    have hi : i < len := by
      have := (List.getElem?_eq_some_iff.1 hr).1
      simpa using this
    obtain ⟨r', hr', hI⟩ := each i hi
    simp only [List.getElem?_map, List.getElem?_range hi, Option.map_some, hr', Option.getD_some, Option.some.injEq] at hr
    subst hr
    obtain ⟨hb', hl', hc⟩ := World.cells?_some hr'
    have hc0 := hc 0 h0
    have hlt : 0 < r'.length := by omega
    rw [List.getElem?_eq_getElem hlt] at hc0
    obtain ⟨b, off, spot⟩ := a
    have hspot : spot = none := by
      obtain ⟨r0, hr0, _⟩ := each 0 (by omega)
      obtain ⟨_, hl0, hz⟩ := World.cells?_some hr0
      have hz0 := hz 0 h0
      rw [List.getElem?_eq_getElem (by omega)] at hz0
      have := World.cell?_spot hz0
      simpa [Addr.add] using this
    subst hspot
    refine ⟨b, off, rfl, ?_, fun j u hj => ?_⟩
    · rw [add_plain, add_plain] at hc0
      unfold World.cell? at hc0
      split at hc0
      · rename_i hh; exact (Array.getElem?_eq_some_iff.1 hh).1
      · cases hc0
    · have hjl : j < ks.length := by have := (List.getElem?_eq_some_iff.1 hj).1; omega
      have := hc j hjl
      rw [add_plain, add_plain] at this
      rw [this, hj]
end Flat
namespace Gs
open Mem Gr
def toB : List Value → Bx
  | [.int _ a, .int _ b, .int _ c, .int _ d] => ⟨a, b, c, d⟩
  | _ => ⟨0, 0, 0, 0⟩
theorem rowsB_of {w : World} {a : Option Addr} {rows : List (List Value)} (hI : ∀ r ∈ rows, Flat.Ints [.i32, .i32, .i32, .i32] r)
    (h : ∀ i r, rows[i]? = some r → ∃ b off, a = some ⟨b, off, none⟩ ∧ b < w.heap.size ∧ ∀ j u, r[j]? = some u → w.cell? ⟨b, off + i * 4 + j, none⟩ = some u) : RowsB w a (rows.map toB) := by
  intro i p hp
  rw [List.getElem?_map, Option.map_eq_some_iff] at hp
  obtain ⟨r, hr, rfl⟩ := hp
  obtain ⟨b, off, ha, hb, hc⟩ := h i r hr
  obtain ⟨x0, c1, rfl, _, x1, c2, rfl, _, x2, c3, rfl, _, x3, c4, rfl, _, rfl⟩ := hI r (List.mem_of_getElem? hr)
  exact ⟨b, off, ha, hb, by simpa [toB] using hc 0 _ rfl, by simpa [toB] using hc 1 _ rfl, by simpa [toB] using hc 2 _ rfl, by simpa [toB] using hc 3 _ rfl⟩
theorem k2 : Flat.flat Try.prog 4 2 = some [.i64] := by kernel_rfl
theorem k24 : Flat.flat Try.prog 4 24 = some [.i32, .i32] := by kernel_rfl
theorem k5 : Flat.flat Try.prog 4 5 = some [.u8] := by kernel_rfl
theorem k37 : Flat.flat Try.prog 4 37 = some [.i32, .i32, .i32, .i32] := by kernel_rfl
theorem n37 : Try.prog.cellsOf 37 = 4 := by kernel_rfl
theorem n26 : Try.prog.cellsOf 26 = 7 := by kernel_rfl
theorem n2 : Try.prog.cellsOf 2 = 1 := by kernel_rfl
theorem n22 : Try.prog.cellsOf 22 = 1 := by kernel_rfl
theorem n24 : Try.prog.cellsOf 24 = 2 := by kernel_rfl
theorem n5 : Try.prog.cellsOf 5 = 1 := by kernel_rfl
theorem u8_wf {a : Int} (h : (Lit.int .u8 a).wf = true) : 0 ≤ a ∧ a ≤ 255 := by
  have h1 : IntKind.u8.min = 0 := rfl
  have h2 : IntKind.u8.max = 255 := rfl
  simp [Lit.wf] at h
  omega
theorem ask_open {H : Type} {enc : TypeId × Value → H} {w : World} {base : Nat} {spare : Nat → Bool} {held : Bool} {fuel : Nat} {cs : List Value} {x : DataW H × List MemPlace} (h : DataW.trod enc Try.prog w base spare held fuel 26 cs = some x) :
    ∃ (s : Int) (a : Option Addr) (rows : List Bx) (cap : Nat) (px py qx qy : Int) (wh : Nat), cs = [.int .i64 s, .slice a rows.length cap, .int .i32 px, .int .i32 py, .int .i32 qx, .int .i32 qy, .int .u8 (wh : Int)] ∧ wh < 256 ∧ RowsB w a rows ∧ rows.length ≤ 9223372036854775807 := by
  obtain ⟨xs, m, rfl, _, hcl, hxl, hfs⟩ := DataW.trod_struct Try.underlying26 h
  rw [n26] at hcl
  have e0 := hfs 0 _ rfl
  have e1 := hfs 1 _ rfl
  have e2 := hfs 2 _ rfl
  have e3 := hfs 3 _ rfl
  have e4 := hfs 4 _ rfl
  have hx : xs.length = 5 := hxl
  rw [List.getElem?_eq_getElem (by omega)] at e0 e1 e2 e3 e4
  obtain ⟨c0, cs, rfl⟩ := List.exists_cons_of_length_pos (show 0 < cs.length by omega)
  obtain ⟨c1, cs, rfl⟩ := List.exists_cons_of_length_pos (show 0 < cs.length by simp at hcl; omega)
  obtain ⟨c2, cs, rfl⟩ := List.exists_cons_of_length_pos (show 0 < cs.length by simp at hcl; omega)
  obtain ⟨c3, cs, rfl⟩ := List.exists_cons_of_length_pos (show 0 < cs.length by simp at hcl; omega)
  obtain ⟨c4, cs, rfl⟩ := List.exists_cons_of_length_pos (show 0 < cs.length by simp at hcl; omega)
  obtain ⟨c5, cs, rfl⟩ := List.exists_cons_of_length_pos (show 0 < cs.length by simp at hcl; omega)
  obtain ⟨c6, cs, rfl⟩ := List.exists_cons_of_length_pos (show 0 < cs.length by simp at hcl; omega)
  obtain rfl : cs = [] := by
    cases cs with
    | nil => rfl
    | cons y ys => simp at hcl
  simp only [List.getElem_toArray, List.getElem_cons_zero, List.getElem_cons_succ] at e0 e1 e2 e3 e4
  simp only [n2, n22, n24, n5, List.drop_zero, List.drop_succ_cons, List.take_succ_cons, List.take_zero] at e0 e1 e2 e3 e4
  obtain ⟨s, _, h0, _, rfl⟩ := Flat.flat_open 4 _ _ m _ _ k2 e0
  obtain ⟨a, rows, cap, h1, hm, hI, hg⟩ := Flat.flat_slice Try.underlying22 k37 n37 (by decide) e1
  obtain ⟨px, _, h2, _, py, _, rfl, _, rfl⟩ := Flat.flat_open 4 _ _ m _ _ k24 e2
  obtain ⟨qx, _, h3, _, qy, _, rfl, _, rfl⟩ := Flat.flat_open 4 _ _ m _ _ k24 e3
  obtain ⟨n, _, h4, hw, rfl⟩ := Flat.flat_open 4 _ _ m _ _ k5 e4
  simp only [List.cons.injEq, and_true] at h0 h1 h2 h3 h4
  obtain ⟨rfl, rfl⟩ := h2
  obtain ⟨rfl, rfl⟩ := h3
  subst h0 h1 h4
  have hn := u8_wf hw
  refine ⟨s, a, rows.map toB, cap, px, py, qx, qy, n.toNat, ?_, by omega, rowsB_of hI hg, by simp only [List.length_map]; unfold maxLen at hm; omega⟩
  rw [Int.toNat_of_nonneg hn.1, List.length_map]
end Gs
end Go.Proofs.Ytppiohmnbffndaa
