/-
  AvlB: the list that stands in the tree, how deep it is at most, and what may be passed over.
-/
import Derived.Test.YtndghakagogmcaaAvl
namespace Go.Proofs.Ytndghakagogmcaa
set_option linter.unusedVariables false
set_option linter.unusedSimpArgs false
namespace Tree
/-- a list of numbered boxes, rising -/
def Rising (L : List (Nat × Bx)) : Prop := L.Pairwise fun a b => a.1 < b.1
def putL (id : Nat) (bx : Bx) : List (Nat × Bx) → List (Nat × Bx)
  | [] => [(id, bx)]
  | p :: L => if id < p.1 then (id, bx) :: p :: L else p :: putL id bx L
def delL (id : Nat) (L : List (Nat × Bx)) : List (Nat × Bx) := L.filter fun p => p.1 != id
theorem Rising.app {A B : List (Nat × Bx)} {p : Nat × Bx} : Rising (A ++ p :: B) ↔ Rising A ∧ Rising B ∧ (∀ a ∈ A, a.1 < p.1) ∧ (∀ b ∈ B, p.1 < b.1) := by
  unfold Rising
  rw [List.pairwise_append, List.pairwise_cons]
  constructor
  · rintro ⟨h1, ⟨h2, h3⟩, h4⟩
    exact ⟨h1, h3, fun a ha => h4 a ha p (by simp), h2⟩
  · rintro ⟨h1, h2, h3, h4⟩
    refine ⟨h1, ⟨h4, h2⟩, fun a ha b hb => ?_⟩
    rcases List.mem_cons.1 hb with rfl | hb
    · exact h3 a ha
    · exact Nat.lt_trans (h3 a ha) (h4 b hb)
theorem putL_left (id : Nat) (bx : Bx) (p : Nat × Bx) (B : List (Nat × Bx)) (hp : id < p.1) : ∀ A : List (Nat × Bx), putL id bx (A ++ p :: B) = putL id bx A ++ p :: B
  | [] => by simp [putL, hp]
  | a :: A => by
    simp only [List.cons_append, putL]
    split
    · rfl
    · rw [putL_left id bx p B hp A]; rfl
theorem putL_right (id : Nat) (bx : Bx) (p : Nat × Bx) (B : List (Nat × Bx)) (hp : ¬ id < p.1) : ∀ A : List (Nat × Bx), (∀ a ∈ A, a.1 < p.1) → putL id bx (A ++ p :: B) = A ++ p :: putL id bx B
  | [], _ => by simp [putL, hp]
  | a :: A, h => by
    have h1 := h a (by simp)
    simp only [List.cons_append, putL]
    rw [if_neg (by omega), putL_right id bx p B hp A (fun x hx => h x (by simp [hx]))]
theorem putL_mem (id : Nat) (bx : Bx) : ∀ (L : List (Nat × Bx)) (x : Nat × Bx), x ∈ putL id bx L ↔ x = (id, bx) ∨ x ∈ L
  | [], x => by simp [putL]
  | p :: L, x => by
    simp only [putL]
    split
    · simp
    · simp only [List.mem_cons, putL_mem id bx L x]
      constructor
      · rintro (h | h | h)
        · exact .inr (.inl h)
        · exact .inl h
        · exact .inr (.inr h)
      · rintro (h | h | h)
        · exact .inr (.inl h)
        · exact .inl h
        · exact .inr (.inr h)
theorem putL_rising (id : Nat) (bx : Bx) : ∀ (L : List (Nat × Bx)), Rising L → (∀ p ∈ L, p.1 ≠ id) → Rising (putL id bx L)
  | [], _, _ => by simp [putL, Rising]
  | p :: L, h, hn => by
    have h' := List.pairwise_cons.1 h
    have hp := hn p (by simp)
    simp only [putL]
    split
    · refine List.pairwise_cons.2 ⟨fun a ha => ?_, h⟩
      rcases List.mem_cons.1 ha with rfl | ha
      · assumption
      · have := h'.1 a ha; simp only; omega
    · refine List.pairwise_cons.2 ⟨fun a ha => ?_, putL_rising id bx L h'.2 (fun p hp => hn p (by simp [hp]))⟩
      rcases (putL_mem id bx L a).1 ha with rfl | ha
      · simp only; omega
      · exact h'.1 a ha
theorem putL_length (id : Nat) (bx : Bx) : ∀ (L : List (Nat × Bx)), (putL id bx L).length = L.length + 1
  | [] => rfl
  | p :: L => by
    simp only [putL]
    split
    · rfl
    · simp [putL_length id bx L]
theorem delL_rising (id : Nat) {L : List (Nat × Bx)} (h : Rising L) : Rising (delL id L) := h.filter _
theorem delL_none (id : Nat) {L : List (Nat × Bx)} (h : ∀ p ∈ L, p.1 ≠ id) : delL id L = L := by
  unfold delL
  rw [List.filter_eq_self]
  intro p hp
  simpa using h p hp
namespace BT
theorem inord_ins (nb id : Nat) (bx : Bx) : ∀ t : BT, Rising (inord t) → inord (ins nb id bx t) = putL id bx (inord t)
  | nil, _ => rfl
  | node b id' bx' al d l r, h => by
    obtain ⟨h1, h2, h3, h4⟩ := Rising.app.1 h
    simp only [ins]
    split
    · rename_i hlt
      rw [inord_even, inord_ins nb id bx l h1]
      exact (putL_left id bx (id', bx') (inord r) hlt (inord l)).symm
    · rename_i hge
      rw [inord_even, inord_ins nb id bx r h2]
      exact (putL_right id bx (id', bx') (inord r) hge (inord l) h3).symm
theorem inord_del (id : Nat) : ∀ t : BT, Rising (inord t) → inord (del id t) = delL id (inord t)
  | nil, _ => rfl
  | node b id' bx' al d l r, h => by
    obtain ⟨h1, h2, h3, h4⟩ := Rising.app.1 h
    have hf : delL id (inord (node b id' bx' al d l r)) = delL id (inord l) ++ (if id' ≠ id then (id', bx') :: delL id (inord r) else delL id (inord r)) := by
      simp only [inord, delL, List.filter_append, List.filter_cons, bne_iff_ne]
    rw [hf]
    simp only [del]
    split
    · rename_i hlt
      rw [inord_even, inord_del id l h1, if_pos (by omega), delL_none id (L := inord r) (fun p hp => by have := h4 p hp; simp only at this; omega)]
    · split
      · rename_i hgt
        rw [inord_even, inord_del id r h2, if_pos (by omega), delL_none id (L := inord l) (fun p hp => by have := h3 p hp; simp only at this; omega)]
      · have he : id' = id := by omega
        subst he
        have e1 := delL_none id' (L := inord l) (fun p hp => by have := h3 p hp; simp only at this; omega)
        have e2 := delL_none id' (L := inord r) (fun p hp => by have := h4 p hp; simp only at this; omega)
        rw [e1, e2, if_neg (by simp)]
        cases l with
        | nil => rfl
        | node b1 id1 bx1 al1' d1 l1 r1 =>
          cases r with
          | nil => simp [inord]
          | node b2 id2 bx2 al2 d2 rl rr =>
            simp only [inord_even]
            rw [show (((least b2 id2 bx2 rl rr).1.2.1, (least b2 id2 bx2 rl rr).1.2.2) : Nat × Bx) = (least b2 id2 bx2 rl rr).1.2 from rfl, inord_least]
            rfl
theorem pow_half (h : Nat) : 2 ^ ((h + 2 + 1) / 2) = 2 * 2 ^ ((h + 1) / 2) := by
  rw [show (h + 2 + 1) / 2 = (h + 1) / 2 + 1 by omega, Nat.pow_succ]; omega
theorem many : ∀ {t : BT}, Ok t → 2 ^ (((dp t).toNat + 1) / 2) ≤ (inord t).length + 1 := by
  have main : ∀ (n : Nat) (t : BT), (inord t).length < n → Ok t → 2 ^ (((dp t).toNat + 1) / 2) ≤ (inord t).length + 1 := by
    intro n
    induction n with
    | zero => intro t h; omega
    | succ n ih =>
      intro t hn h
      cases t with
      | nil => simp [dp, inord]
      | node b id bx al d l r =>
        obtain ⟨_, _, hd, g1, g2, hl, hr⟩ := h
        have nl := dp_nonneg hl
        have nr := dp_nonneg hr
        simp only [inord, List.length_append, List.length_cons] at hn
        have i1 := ih l (by omega) hl
        have i2 := ih r (by omega) hr
        simp only [inord, List.length_append, List.length_cons, dp_node]
        have key : ∀ a b : Nat, a ≤ b → 2 ^ ((a + 1) / 2) ≤ 2 ^ ((b + 1) / 2) := fun a b hab => Nat.pow_le_pow_right (by omega) (by omega)
        by_cases hm : dp l = 0 ∧ dp r = 0
        · have : d = 1 := by omega
          subst this
          have := Nat.one_le_two_pow (n := ((dp l).toNat + 1) / 2)
          simp
          omega
        · obtain ⟨m, hm2⟩ : ∃ m : Nat, d.toNat = m + 2 := ⟨d.toNat - 2, by omega⟩
          rw [hm2, pow_half]
          have j1 := key m (dp l).toNat (by omega)
          have j2 := key m (dp r).toNat (by omega)
          omega
  intro t h
  exact main _ t (Nat.lt_succ_self _) h
/-- how deep at most: with fewer than 2^d there are at most 2 d -/
theorem deepest {t : BT} (h : Ok t) {d : Nat} (hl : (inord t).length < 2 ^ d) : dp t ≤ 2 * d := by
  have h1 := many h
  have h2 := dp_nonneg h
  have h3 : 2 ^ (((dp t).toNat + 1) / 2) ≤ 2 ^ d := by omega
  have h4 := (Nat.pow_le_pow_iff_right (by omega : 1 < 2)).1 h3
  omega
theorem dp_zero {t : BT} (h : Ok t) : dp t = 0 ↔ inord t = [] := by
  cases t with
  | nil => simp [dp, inord]
  | node b id bx al d l r =>
    have := dp_pos h
    simp only [dp_node, inord]
    constructor
    · intro e; omega
    · intro e; simp at e
/-- one box lies within another -/
def Within (a b : Bx) : Prop := b.x0 ≤ a.x0 ∧ b.y0 ≤ a.y0 ∧ a.x1 ≤ b.x1 ∧ a.y1 ≤ b.y1
theorem join_right {a b : Bx} (ha : a.right = true) (hb : b.right = true) : (a.join b).right = true := by
  simp only [Bx.right, Bool.and_eq_true, decide_eq_true_eq] at *
  show min a.x0 b.x0 ≤ max a.x1 b.x1 ∧ min a.y0 b.y0 ≤ max a.y1 b.y1
  omega
theorem join_left (a b : Bx) : Within a (a.join b) := by
  simp only [Within, Bx.join]; omega
theorem join_snd (a b : Bx) : Within b (a.join b) := by
  simp only [Within, Bx.join]; omega
theorem Within.trans {a b c : Bx} (h : Within a b) (g : Within b c) : Within a c := by
  simp only [Within] at *; omega
theorem Within.refl (a : Bx) : Within a a := by
  simp only [Within]; omega
def alOf : BT → Bx → Bx
  | nil, a => a
  | node _ _ _ al _ _ _, _ => al
theorem covers : ∀ {t : BT}, Ok t → (∀ p ∈ inord t, p.2.right = true) ∧ (∀ a : Bx, a.right = true → (al1 t a).right = true) ∧ (∀ a : Bx, Within a (al1 t a)) ∧ (∀ a : Bx, ∀ p ∈ inord t, Within p.2 (al1 t a)) ∧
    (∀ a, t ≠ nil → (alOf t a).right = true ∧ ∀ p ∈ inord t, Within p.2 (alOf t a))
  | nil, _ => ⟨fun p hp => by simp [inord] at hp, fun a ha => ha, fun a => Within.refl a, fun a p hp => by simp [inord] at hp, fun a h => (h rfl).elim⟩
  | node b id bx al d l r, h => by
    obtain ⟨hb, rfl, _, _, _, hl, hr⟩ := h
    obtain ⟨l1, l2, l3, l4, _⟩ := covers hl
    obtain ⟨r1, r2, r3, r4, _⟩ := covers hr
    have hal : (al1 r (al1 l bx)).right = true := r2 _ (l2 _ hb)
    have hin : ∀ p ∈ inord (node b id bx (al1 r (al1 l bx)) d l r), Within p.2 (al1 r (al1 l bx)) := by
      intro p hp
      simp only [inord, List.mem_append, List.mem_cons] at hp
      rcases hp with hp | rfl | hp
      · exact (l4 bx p hp).trans (r3 _)
      · exact (l3 bx).trans (r3 _)
      · exact r4 _ p hp
    refine ⟨?_, fun a ha => join_right ha hal, fun a => join_left _ _, fun a p hp => (hin p hp).trans (join_snd _ _), fun a _ => ⟨hal, hin⟩⟩
    intro p hp
    simp only [inord, List.mem_append, List.mem_cons] at hp
    rcases hp with hp | rfl | hp
    · exact l1 p hp
    · exact hb
    · exact r1 p hp
theorem meet_within {a b c : Bx} (ha : a.right = true) (hb : b.right = true) (h : Within a b) (hm : a.meet c = true) : b.meet c = true := by
  simp only [Bx.meet, Bx.right, Within, Bool.and_eq_true, decide_eq_true_eq] at *
  omega
/-- what does not meet all of it meets none of it -/
theorem passed {b id : Nat} {bx al : Bx} {d : Int} {l r : BT} (h : Ok (node b id bx al d l r)) {c : Bx} (hm : al.meet c = false) :
    (inord (node b id bx al d l r)).filter (fun p => p.2.meet c) = [] := by
  have hc := covers h
  obtain ⟨h1, h2⟩ := hc.2.2.2.2 al (by simp)
  rw [List.filter_eq_nil_iff]
  intro p hp hmp
  have := meet_within (hc.1 p hp) h1 (h2 p hp) hmp
  rw [show alOf (node b id bx al d l r) al = al from rfl, hm] at this
  cases this
end BT
end Tree
end Go.Proofs.Ytndghakagogmcaa
