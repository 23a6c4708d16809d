/-
  AnyA: TreeAny: the state; lists.
-/
import Derived.Test.YtndghakagogmcaaTrV
namespace Go.Proofs.Ytndghakagogmcaa
open Go.RowKit Go.Shelf
set_option linter.unusedVariables false
set_option linter.unusedSimpArgs false
attribute [local go_sem] Oper.semAt_some
namespace Tree
open Mem BT
/-- a slice of numbered boxes that came in -/
def Rows5 (w : World) (v : Value) (l : List (Nat × Bx)) : Prop :=
  ∃ a c, v = .slice a l.length c ∧ (∀ p ∈ l, El32 p) ∧ ∀ i p, l[i]? = some p → ∃ b off, a = some ⟨b, off, none⟩ ∧ b < w.heap.size ∧ ∀ j u, (pairCells p)[j]? = some u → w.cell? ⟨b, off + i * 5 + j, none⟩ = some u
def Ints64 (w : World) (v : Value) (l : List Int) : Prop :=
  ∃ a c, v = .slice a l.length c ∧ (∀ z ∈ l, -9223372036854775808 ≤ z ∧ z ≤ 9223372036854775807) ∧ ∀ i z, l[i]? = some z → ∃ b off, a = some ⟨b, off, none⟩ ∧ b < w.heap.size ∧ w.cell? ⟨b, off + i, none⟩ = some (.int .i64 z)
theorem rising_ext : ∀ {A B : List (Nat × Bx)}, Rising A → Rising B → (∀ x, x ∈ A ↔ x ∈ B) → A = B
  | [], [], _, _, _ => rfl
  | [], b :: B, _, _, h => by have := (h b).2 (by simp); simp at this
  | a :: A, [], _, _, h => by have := (h a).1 (by simp); simp at this
  | a :: A, b :: B, hA, hB, h => by
    have hA' := List.pairwise_cons.1 hA
    have hB' := List.pairwise_cons.1 hB
    have hab : a = b := by
      rcases List.mem_cons.1 ((h a).1 (by simp)) with e | h1
      · exact e
      · rcases List.mem_cons.1 ((h b).2 (by simp)) with e | h2
        · exact e.symm
        · have := hB'.1 a h1; have := hA'.1 b h2; omega
    subst hab
    rw [rising_ext hA'.2 hB'.2 fun x => ?_]
    constructor
    · intro hx
      rcases List.mem_cons.1 ((h x).1 (List.mem_cons_of_mem _ hx)) with e | h1
      · have := hA'.1 x hx; rw [e] at this; omega
      · exact h1
    · intro hx
      rcases List.mem_cons.1 ((h x).2 (List.mem_cons_of_mem _ hx)) with e | h1
      · have := hB'.1 x hx; rw [e] at this; omega
      · exact h1
theorem rising_one {L : List (Nat × Bx)} (h : Rising L) {x y : Nat × Bx} (hx : x ∈ L) (hy : y ∈ L) (e : x.1 = y.1) : x = y := by
  induction L with
  | nil => simp at hx
  | cons a L ih =>
    have h' := List.pairwise_cons.1 h
    rcases List.mem_cons.1 hx with rfl | hx <;> rcases List.mem_cons.1 hy with rfl | hy
    · rfl
    · have := h'.1 y hy; omega
    · have := h'.1 x (by assumption); omega
    · exact ih h'.2 hx hy
def put1 (L : List (Nat × Bx)) (p : Nat × Bx) : List (Nat × Bx) := (putR L p.1 p.2).2
theorem put1_length (L : List (Nat × Bx)) (p : Nat × Bx) : (put1 L p).length ≤ L.length + 1 := by
  unfold put1 putR
  split
  · simp
  · split
    · simp
    · split
      · simp
      · simp [putL_length]
theorem put1_mem (L : List (Nat × Bx)) (p x : Nat × Bx) (h : x ∈ put1 L p) : x = p ∨ x ∈ L := by
  unfold put1 putR at h
  split at h
  · exact .inr h
  · split at h
    · exact .inr h
    · split at h
      · exact .inr h
      · exact (putL_mem _ _ _ _).1 h
theorem put1_sub (L : List (Nat × Bx)) (p x : Nat × Bx) (h : x ∈ L) : x ∈ put1 L p := by
  unfold put1 putR
  split
  · exact h
  · split
    · exact h
    · split
      · exact h
      · exact (putL_mem _ _ _ _).2 (.inr h)
theorem put1_has (L : List (Nat × Bx)) (p : Nat × Bx) (hr : p.2.right = true) (hl : L.length < 65536) : hasL (put1 L p) p.1 = true := by
  unfold put1 putR
  rw [if_neg (by simp [hr])]
  split
  · assumption
  · rw [if_neg (by omega)]
    simp [hasL_put]
def del1 (L : List (Nat × Bx)) (id : Nat) : List (Nat × Bx) := (delR L id).2
theorem del1_eq (L : List (Nat × Bx)) (id : Nat) : del1 L id = delL id L := by
  unfold del1 delR
  split
  · rfl
  · rename_i h
    exact (delL_none id (hasL_no.1 (by simpa using h))).symm
theorem del1_mem (L : List (Nat × Bx)) (id : Nat) (x : Nat × Bx) : x ∈ del1 L id ↔ x ∈ L ∧ x.1 ≠ id := by
  rw [del1_eq]; unfold delL; simp [List.mem_filter]
theorem TrS.rising {w : World} {T : Nat} {S : Nat → Prop} {L : List (Nat × Bx)} (h : TrS w T S L) : Rising L := by
  obtain ⟨r, t, hH, hM, he, hR, hI, hl, hS⟩ := h
  exact hR
theorem TrS.each {w : World} {T : Nat} {S : Nat → Prop} {L : List (Nat × Bx)} (h : TrS w T S L) : ∀ x ∈ L, El32 x ∧ x.2.right = true := by
  obtain ⟨r, t, hH, hM, he, hR, hI, hl, hS⟩ := h
  exact fun x hx => ⟨hI x hx, (covers hH.ok).1 x (by rw [he]; exact hx)⟩
theorem TrS.len {w : World} {T : Nat} {S : Nat → Prop} {L : List (Nat × Bx)} (h : TrS w T S L) : L.length ≤ 65536 := by
  obtain ⟨r, t, hH, hM, he, hR, hI, hl, hS⟩ := h
  exact hl
/-- two trees, a box -/
def AnySt (w0 W : World) (BB : Nat) (b : Bx) (T1 T2 : Nat) (L1 L2 : List (Nat × Bx)) : Prop :=
  Blk W BB 47 [.int .i32 b.x0, .int .i32 b.y0, .int .i32 b.x1, .int .i32 b.y1] ∧ Below w0.heap.size w0 W ∧
    ∃ S1 S2, TrS W T1 S1 L1 ∧ TrS W T2 S2 L2 ∧ (∀ k, S1 k → ¬ S2 k ∧ w0.heap.size ≤ k ∧ k ≠ BB) ∧ (∀ k, S2 k → w0.heap.size ≤ k ∧ k ≠ BB)
theorem AnySt.same {w0 W W' : World} {BB : Nat} {b : Bx} {T1 T2 : Nat} {L1 L2 : List (Nat × Bx)} (h : AnySt w0 W BB b T1 T2 L1 L2) (hk : Keeps (fun _ => False) W W') : AnySt w0 W' BB b T1 T2 L1 L2 := by
  obtain ⟨h1, h2, S1, S2, h3, h4, h5, h6⟩ := h
  exact ⟨h1.keeps hk (fun h => h), h2.trans (hk.below h2.size (fun _ _ h => h)), S1, S2, h3.kd hk, h4.kd hk, h5, h6⟩
theorem AnySt.one {w0 W : World} {BB : Nat} {b : Bx} {T1 T2 : Nat} {L1 L2 : List (Nat × Bx)} (h : AnySt w0 W BB b T1 T2 L1 L2) : ∃ S1, TrS W T1 S1 L1 ∧ ∀ p e W', Did T1 S1 p W e W' → e = .returned (.int .i64 p.1) ∧ AnySt w0 W' BB b T1 T2 p.2 L2 := by
  obtain ⟨h1, h2, S1, S2, h3, h4, h5, h6⟩ := h
  refine ⟨S1, h3, ?_⟩
  rintro p e W' ⟨rfl, S1', hf, hT⟩
  have i1 := h3.inb
  have i2 := h4.inb
  refine ⟨rfl, h1.keeps hf.1 (fun hs => (h5 _ hs).2.2 rfl), h2.trans (hf.1.below h2.size (fun k hk hs => by have := (h5 k hs).2.1; omega)), S1', S2, hT, h4.keeps hf.1 (fun k hk hs => (h5 k hs).1 hk), fun k hk => ?_, h6⟩
  have hb := h1.lt
  have hz := h2.size
  rcases hf.2 k hk with hk | hk
  · exact h5 k hk
  · exact ⟨fun hs => by have := i2 k hs; omega, by omega, by omega⟩
theorem AnySt.two {w0 W : World} {BB : Nat} {b : Bx} {T1 T2 : Nat} {L1 L2 : List (Nat × Bx)} (h : AnySt w0 W BB b T1 T2 L1 L2) : ∃ S2, TrS W T2 S2 L2 ∧ ∀ p e W', Did T2 S2 p W e W' → e = .returned (.int .i64 p.1) ∧ AnySt w0 W' BB b T1 T2 L1 p.2 := by
  obtain ⟨h1, h2, S1, S2, h3, h4, h5, h6⟩ := h
  refine ⟨S2, h4, ?_⟩
  rintro p e W' ⟨rfl, S2', hf, hT⟩
  have i1 := h3.inb
  have i2 := h4.inb
  have hb := h1.lt
  have hz := h2.size
  refine ⟨rfl, h1.keeps hf.1 (fun hs => (h6 _ hs).2 rfl), h2.trans (hf.1.below h2.size (fun k hk hs => by have := (h6 k hs).1; omega)), S1, S2', h3.keeps hf.1 (fun k hk hs => (h5 k hk).1 hs), hT, fun k hk => ⟨fun hs => ?_, (h5 k hk).2⟩, fun k hk => ?_⟩
  · rcases hf.2 k hs with hs | hs
    · exact (h5 k hk).1 hs
    · have := i1 k hk; omega
  · rcases hf.2 k hk with hk | hk
    · exact h6 k hk
    · exact ⟨by omega, by omega⟩
theorem AnySt.two2 {w0 W W1 : World} {BB : Nat} {b : Bx} {T1 T2 : Nat} {L1 L2 : List (Nat × Bx)} (h : AnySt w0 W BB b T1 T2 L1 L2) (hk : Keeps (fun _ => False) W W1) : ∃ S2, TrS W1 T2 S2 L2 ∧ (∀ k, S2 k → k < W.heap.size) ∧ ∀ p e W', Did T2 S2 p W1 e W' → e = .returned (.int .i64 p.1) ∧ Keeps S2 W1 W' ∧ AnySt w0 W' BB b T1 T2 L1 p.2 := by
  obtain ⟨h1, h2, S1, S2, h3, h4, h5, h6⟩ := h
  refine ⟨S2, h4.kd hk, h4.inb, ?_⟩
  rintro p e W' ⟨rfl, S2', hf, hT⟩
  have i1 := h3.inb
  have hb := h1.lt
  have hz := h2.size
  have hz1 := hk.size
  have hkk : Keeps S2 W W' := (hk.mono (fun _ _ h => h.elim)).trans hf.1
  refine ⟨rfl, hf.1, h1.keeps hkk (fun hs => (h6 _ hs).2 rfl), h2.trans (hkk.below h2.size (fun k hk hs => by have := (h6 k hs).1; omega)), S1, S2', h3.keeps hkk (fun k hk hs => (h5 k hk).1 hs), hT, fun k hk => ⟨fun hs => ?_, (h5 k hk).2⟩, fun k hk => ?_⟩
  · rcases hf.2 k hs with hs | hs
    · exact (h5 k hk).1 hs
    · have := i1 k hk; omega
  · rcases hf.2 k hk with hk | hk
    · exact h6 k hk
    · exact ⟨by omega, by omega⟩
theorem Rows5.at_ {w0 W : World} (h : Below w0.heap.size w0 W) {b off i : Nat} {p : Nat × Bx} (hb : b < w0.heap.size) (hc : ∀ j u, (pairCells p)[j]? = some u → w0.cell? ⟨b, off + i * 5 + j, none⟩ = some u) :
    ∀ j u, (pairCells p)[j]? = some u → W.cell? ⟨b, off + i * 5 + j, none⟩ = some u := fun j u hj =>
  (Keeps.of_below0 h).cell (p := ⟨b, off + i * 5 + j, none⟩) (hc j u hj) (fun h => h)
end Tree
end Go.Proofs.Ytndghakagogmcaa
