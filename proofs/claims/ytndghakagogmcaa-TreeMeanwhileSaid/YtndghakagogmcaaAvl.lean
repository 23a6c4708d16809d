/-
  Avl: the tree as a plain thing: what the program's moves make of it, and that it stays even. No program in sight.
-/
import Derived.Test.YtndghakagogmcaaTreeC
namespace Go.Proofs.Ytndghakagogmcaa
set_option linter.unusedVariables false
set_option linter.unusedSimpArgs false
namespace Tree
/-- a tree: where each node lies, its number and box, what it keeps of those below it -/
inductive BT where
  | nil
  | node (b : Nat) (id : Nat) (bx al : Bx) (dp : Int) (l r : BT)
namespace BT
def ptr : BT → Option Addr
  | nil => none
  | node b _ _ _ _ _ _ => some ⟨b, 0, none⟩
def dp : BT → Int
  | nil => 0
  | node _ _ _ _ d _ _ => d
theorem dp_nil : dp nil = 0 := rfl
theorem dp_node (b id : Nat) (bx al : Bx) (d : Int) (l r : BT) : dp (node b id bx al d l r) = d := rfl
def blocks : BT → List Nat
  | nil => []
  | node b _ _ _ _ l r => b :: (blocks l ++ blocks r)
def inord : BT → List (Nat × Bx)
  | nil => []
  | node _ id bx _ _ l r => inord l ++ (id, bx) :: inord r
def al1 : BT → Bx → Bx
  | nil, a => a
  | node _ _ _ al _ _ _, a => a.join al
def mk' (b id : Nat) (bx : Bx) (l r : BT) : BT := node b id bx (al1 r (al1 l bx)) (1 + max (dp l) (dp r)) l r
def rotL (b id : Nat) (bx : Bx) (l r : BT) : BT :=
  match l with
  | node b' id' bx' _ _ ll lr => mk' b' id' bx' ll (mk' b id bx lr r)
  | nil => mk' b id bx nil r
def rotH (b id : Nat) (bx : Bx) (l r : BT) : BT :=
  match r with
  | node b' id' bx' _ _ rl rr => mk' b' id' bx' (mk' b id bx l rl) rr
  | nil => mk' b id bx l nil
def even (b id : Nat) (bx : Bx) (l r : BT) : BT :=
  if dp l - dp r = 2 then
    match l with
    | node b' id' bx' al' d' ll lr => rotL b id bx (if dp ll < dp lr then rotH b' id' bx' ll lr else node b' id' bx' al' d' ll lr) r
    | nil => mk' b id bx nil r
  else if dp l - dp r = -2 then
    match r with
    | node b' id' bx' al' d' rl rr => rotH b id bx l (if dp rr < dp rl then rotL b' id' bx' rl rr else node b' id' bx' al' d' rl rr)
    | nil => mk' b id bx l nil
  else mk' b id bx l r
def ins (nb id : Nat) (bx : Bx) : BT → BT
  | nil => mk' nb id bx nil nil
  | node b id' bx' _ _ l r => if id < id' then even b id' bx' (ins nb id bx l) r else even b id' bx' l (ins nb id bx r)
def least (b id : Nat) (bx : Bx) : BT → BT → (Nat × Nat × Bx) × BT
  | nil, r => ((b, id, bx), r)
  | node b' id' bx' _ _ ll lr, r => ((least b' id' bx' ll lr).1, even b id bx (least b' id' bx' ll lr).2 r)
def del (id : Nat) : BT → BT
  | nil => nil
  | node b id' bx' _ _ l r =>
    if id < id' then even b id' bx' (del id l) r
    else if id' < id then even b id' bx' l (del id r)
    else match l, r with
      | nil, r => r
      | l, nil => l
      | l, node b2 id2 bx2 _ _ rl rr => even (least b2 id2 bx2 rl rr).1.1 (least b2 id2 bx2 rl rr).1.2.1 (least b2 id2 bx2 rl rr).1.2.2 l (least b2 id2 bx2 rl rr).2
/-- even, and true in what the nodes keep -/
def Ok : BT → Prop
  | nil => True
  | node _ _ bx al d l r => bx.right = true ∧ al = al1 r (al1 l bx) ∧ d = 1 + max (dp l) (dp r) ∧ dp l - dp r ≤ 1 ∧ dp r - dp l ≤ 1 ∧ Ok l ∧ Ok r
theorem dp_nonneg : ∀ {t : BT}, Ok t → 0 ≤ dp t
  | nil, _ => Int.le_refl _
  | node _ _ _ _ d l r, h => by
    obtain ⟨_, _, rfl, _, _, hl, hr⟩ := h
    have := dp_nonneg hl; have := dp_nonneg hr
    simp only [dp_nil, dp_node]; omega
theorem dp_pos {b id : Nat} {bx al : Bx} {d : Int} {l r : BT} (h : Ok (node b id bx al d l r)) : 1 ≤ d := by
  obtain ⟨_, _, rfl, _, _, hl, hr⟩ := h
  have := dp_nonneg hl; have := dp_nonneg hr
  omega
theorem mk_ok {b id : Nat} {bx : Bx} {l r : BT} (hb : bx.right = true) (hl : Ok l) (hr : Ok r) (h1 : dp l - dp r ≤ 1) (h2 : dp r - dp l ≤ 1) : Ok (mk' b id bx l r) :=
  ⟨hb, rfl, rfl, h1, h2, hl, hr⟩
@[simp] theorem dp_mk (b id : Nat) (bx : Bx) (l r : BT) : dp (mk' b id bx l r) = 1 + max (dp l) (dp r) := rfl
@[simp] theorem inord_mk (b id : Nat) (bx : Bx) (l r : BT) : inord (mk' b id bx l r) = inord l ++ (id, bx) :: inord r := rfl
@[simp] theorem blocks_mk (b id : Nat) (bx : Bx) (l r : BT) : blocks (mk' b id bx l r) = b :: (blocks l ++ blocks r) := rfl
theorem inord_rotL (b id : Nat) (bx : Bx) (l r : BT) : inord (rotL b id bx l r) = inord l ++ (id, bx) :: inord r := by
  cases l <;> simp [rotL, inord]
theorem inord_rotH (b id : Nat) (bx : Bx) (l r : BT) : inord (rotH b id bx l r) = inord l ++ (id, bx) :: inord r := by
  cases r <;> simp [rotH, inord]
theorem perm_rotL (b id : Nat) (bx : Bx) (l r : BT) : (blocks (rotL b id bx l r)).Perm (b :: (blocks l ++ blocks r)) := by
  cases l with
  | nil => simp [rotL, blocks]
  | node b' id' bx' al' d' ll lr =>
    simp only [rotL, blocks_mk, blocks, List.cons_append, List.append_assoc]
    refine ((List.perm_middle).cons b').trans ?_
    exact List.Perm.swap _ _ _
theorem perm_rotH (b id : Nat) (bx : Bx) (l r : BT) : (blocks (rotH b id bx l r)).Perm (b :: (blocks l ++ blocks r)) := by
  cases r with
  | nil => simp [rotH, blocks]
  | node b' id' bx' al' d' rl rr =>
    simp only [rotH, blocks_mk, blocks, List.cons_append, List.append_assoc]
    refine (List.Perm.swap _ _ _).trans ?_
    exact ((List.perm_middle).symm).cons b
theorem inord_even (b id : Nat) (bx : Bx) (l r : BT) : inord (even b id bx l r) = inord l ++ (id, bx) :: inord r := by
  unfold even
  split
  · cases l with
    | nil => simp
    | node b' id' bx' al' d' ll lr =>
      simp only [inord_rotL]
      split <;> simp [inord_rotH, inord]
  · split
    · cases r with
      | nil => simp
      | node b' id' bx' al' d' rl rr =>
        simp only [inord_rotH]
        split <;> simp [inord_rotL, inord]
    · simp
theorem perm_even (b id : Nat) (bx : Bx) (l r : BT) : (blocks (even b id bx l r)).Perm (b :: (blocks l ++ blocks r)) := by
  unfold even
  split
  · cases l with
    | nil => simp
    | node b' id' bx' al' d' ll lr =>
      refine (perm_rotL _ _ _ _ _).trans ?_
      split
      · exact ((perm_rotH _ _ _ _ _).append_right _).cons _
      · exact List.Perm.refl _
  · split
    · cases r with
      | nil => simp
      | node b' id' bx' al' d' rl rr =>
        refine (perm_rotH _ _ _ _ _).trans ?_
        split
        · exact ((perm_rotL _ _ _ _ _).append_left _).cons _
        · exact List.Perm.refl _
    · simp
theorem even_ok {b id : Nat} {bx : Bx} {l r : BT} (hb : bx.right = true) (hl : Ok l) (hr : Ok r) (h1 : dp l - dp r ≤ 2) (h2 : dp r - dp l ≤ 2) :
    Ok (even b id bx l r) ∧ max (dp l) (dp r) ≤ dp (even b id bx l r) ∧ dp (even b id bx l r) ≤ 1 + max (dp l) (dp r) ∧ (dp l - dp r ≤ 1 → dp r - dp l ≤ 1 → dp (even b id bx l r) = 1 + max (dp l) (dp r)) := by
  have nl := dp_nonneg hl
  have nr := dp_nonneg hr
  unfold even
  split
  · rename_i h
    cases l with
    | nil => simp only [dp_nil, dp_node] at h; omega
    | node b' id' bx' al' d' ll lr =>
      obtain ⟨hb', ha, hd, g1, g2, hll, hlr⟩ := hl
      have n1 := dp_nonneg hll
      have n2 := dp_nonneg hlr
      simp only [dp_nil, dp_node] at *
      by_cases hc : dp ll < dp lr
      · simp only [hc, if_true]
        cases lr with
        | nil => simp only [dp_nil, dp_node] at hc; omega
        | node b3 id3 bx3 al3 d3 l3 r3 =>
          obtain ⟨hb3, ha3, hd3, g3, g4, hl3, hr3⟩ := hlr
          have n3 := dp_nonneg hl3
          have n4 := dp_nonneg hr3
          simp only [dp_nil, dp_node] at *
          simp only [rotH, rotL, mk', dp_nil, dp_node]
          refine ⟨⟨hb3, rfl, rfl, ?_, ?_, ⟨hb', rfl, rfl, ?_, ?_, hll, hl3⟩, hb, rfl, rfl, ?_, ?_, hr3, hr⟩, ?_, ?_, ?_⟩ <;> (try simp only [dp_nil, dp_node]) <;> omega
      · simp only [hc, if_false]
        simp only [rotL, mk', dp_nil, dp_node]
        refine ⟨⟨hb', rfl, rfl, ?_, ?_, hll, hb, rfl, rfl, ?_, ?_, hlr, hr⟩, ?_, ?_, ?_⟩ <;> (try simp only [dp_nil, dp_node]) <;> omega
  · split
    · rename_i h0 h
      cases r with
      | nil => simp only [dp_nil, dp_node] at h; omega
      | node b' id' bx' al' d' rl rr =>
        obtain ⟨hb', ha, hd, g1, g2, hrl, hrr⟩ := hr
        have n1 := dp_nonneg hrl
        have n2 := dp_nonneg hrr
        simp only [dp_nil, dp_node] at *
        by_cases hc : dp rr < dp rl
        · simp only [hc, if_true]
          cases rl with
          | nil => simp only [dp_nil, dp_node] at hc; omega
          | node b3 id3 bx3 al3 d3 l3 r3 =>
            obtain ⟨hb3, ha3, hd3, g3, g4, hl3, hr3⟩ := hrl
            have n3 := dp_nonneg hl3
            have n4 := dp_nonneg hr3
            simp only [dp_nil, dp_node] at *
            simp only [rotH, rotL, mk', dp_nil, dp_node]
            refine ⟨⟨hb3, rfl, rfl, ?_, ?_, ⟨hb, rfl, rfl, ?_, ?_, hl, hl3⟩, hb', rfl, rfl, ?_, ?_, hr3, hrr⟩, ?_, ?_, ?_⟩ <;> (try simp only [dp_nil, dp_node]) <;> omega
        · simp only [hc, if_false]
          simp only [rotH, mk', dp_nil, dp_node]
          refine ⟨⟨hb', rfl, rfl, ?_, ?_, ⟨hb, rfl, rfl, ?_, ?_, hl, hrl⟩, hrr⟩, ?_, ?_, ?_⟩ <;> (try simp only [dp_nil, dp_node]) <;> omega
    · exact ⟨⟨hb, rfl, rfl, by omega, by omega, hl, hr⟩, by simp only [mk', dp_node]; omega, by simp only [mk', dp_node]; omega, fun _ _ => rfl⟩
theorem ins_ok (nb id : Nat) (bx : Bx) (hb : bx.right = true) : ∀ {t : BT}, Ok t → Ok (ins nb id bx t) ∧ dp t ≤ dp (ins nb id bx t) ∧ dp (ins nb id bx t) ≤ 1 + dp t
  | nil, _ => ⟨⟨hb, rfl, rfl, by simp [dp], by simp [dp], trivial, trivial⟩, by simp [ins, mk', dp], by simp [ins, mk', dp]⟩
  | node b id' bx' al' d l r, h => by
    obtain ⟨hb', ha, hd, g1, g2, hl, hr⟩ := h
    simp only [ins]
    split
    · obtain ⟨k1, k2, k3⟩ := ins_ok nb id bx hb hl
      obtain ⟨e1, e2, e3, e4⟩ := even_ok (b := b) (id := id') hb' k1 hr (by omega) (by omega)
      refine ⟨e1, ?_, ?_⟩ <;> (try simp only [dp_nil, dp_node]) <;> omega
    · obtain ⟨k1, k2, k3⟩ := ins_ok nb id bx hb hr
      obtain ⟨e1, e2, e3, e4⟩ := even_ok (b := b) (id := id') hb' hl k1 (by omega) (by omega)
      refine ⟨e1, ?_, ?_⟩ <;> (try simp only [dp_nil, dp_node]) <;> omega
theorem perm_ins (nb id : Nat) (bx : Bx) : ∀ t : BT, (blocks (ins nb id bx t)).Perm (nb :: blocks t)
  | nil => List.Perm.refl _
  | node b id' bx' al' d l r => by
    simp only [ins]
    split
    · refine (perm_even _ _ _ _ _).trans ?_
      refine (((perm_ins nb id bx l).append_right _).cons b).trans ?_
      exact List.Perm.swap _ _ _
    · refine (perm_even _ _ _ _ _).trans ?_
      refine (((perm_ins nb id bx r).append_left _).cons b).trans ?_
      exact ((List.perm_middle).cons b).trans (List.Perm.swap _ _ _)
theorem least_ok (b id : Nat) (bx : Bx) (hb : bx.right = true) : ∀ (l : BT) {r : BT}, Ok l → Ok r → dp l - dp r ≤ 1 → dp r - dp l ≤ 1 →
    Ok (least b id bx l r).2 ∧ (least b id bx l r).1.2.2.right = true ∧ max (dp l) (dp r) ≤ dp (least b id bx l r).2 ∧ dp (least b id bx l r).2 ≤ 1 + max (dp l) (dp r)
  | nil, r, _, hr, g1, g2 => by
    have := dp_nonneg hr
    simp only [dp_nil, dp_node] at g1 g2
    refine ⟨hr, hb, ?_, ?_⟩ <;> simp only [least, dp_nil, dp_node] <;> omega
  | node b' id' bx' al' d' ll lr, r, hl, hr, g1, g2 => by
    obtain ⟨hb', ha, hd, k1, k2, hll, hlr⟩ := hl
    obtain ⟨i1, i2, i3, i4⟩ := least_ok b' id' bx' hb' ll hll hlr k1 k2
    simp only [dp_nil, dp_node] at g1 g2
    obtain ⟨e1, e2, e3, e4⟩ := even_ok (b := b) (id := id) hb i1 hr (by omega) (by omega)
    simp only [least]
    refine ⟨e1, i2, ?_, ?_⟩ <;> (try simp only [dp_nil, dp_node]) <;> omega
theorem inord_least (b id : Nat) (bx : Bx) : ∀ l r : BT, (least b id bx l r).1.2 :: inord (least b id bx l r).2 = inord l ++ (id, bx) :: inord r
  | nil, r => rfl
  | node b' id' bx' al' d' ll lr, r => by
    simp only [least, inord_even, inord]
    rw [← inord_least b' id' bx' ll lr]
    rfl
theorem perm_least (b id : Nat) (bx : Bx) : ∀ l r : BT, ((least b id bx l r).1.1 :: blocks (least b id bx l r).2).Perm (b :: (blocks l ++ blocks r))
  | nil, r => List.Perm.refl _
  | node b' id' bx' al' d' ll lr, r => by
    simp only [least]
    refine ((perm_even _ _ _ _ _).cons _).trans ((List.Perm.swap _ _ _).trans (List.Perm.cons b ?_))
    exact (perm_least b' id' bx' ll lr).append_right (blocks r)
theorem del_ok (id : Nat) : ∀ {t : BT}, Ok t → Ok (del id t) ∧ dp (del id t) ≤ dp t ∧ dp t ≤ 1 + dp (del id t)
  | nil, _ => ⟨trivial, by simp [del], by simp [del, dp]⟩
  | node b id' bx' al' d l r, h => by
    obtain ⟨hb', ha, hd, g1, g2, hl, hr⟩ := h
    have nl := dp_nonneg hl
    have nr := dp_nonneg hr
    simp only [del]
    split
    · obtain ⟨k1, k2, k3⟩ := del_ok id hl
      obtain ⟨e1, e2, e3, e4⟩ := even_ok (b := b) (id := id') hb' k1 hr (by omega) (by omega)
      refine ⟨e1, ?_, ?_⟩ <;> (try simp only [dp_nil, dp_node]) <;> omega
    · split
      · obtain ⟨k1, k2, k3⟩ := del_ok id hr
        obtain ⟨e1, e2, e3, e4⟩ := even_ok (b := b) (id := id') hb' hl k1 (by omega) (by omega)
        refine ⟨e1, ?_, ?_⟩ <;> (try simp only [dp_nil, dp_node]) <;> omega
      · cases l with
        | nil =>
          simp only [dp_nil, dp_node] at *
          exact ⟨hr, by omega, by omega⟩
        | node b1 id1 bx1 al1' d1 l1 r1 =>
          cases r with
          | nil =>
            simp only [dp_nil, dp_node] at *
            exact ⟨hl, by omega, by omega⟩
          | node b2 id2 bx2 al2 d2 rl rr =>
            obtain ⟨hb2, ha2, hd2, k1, k2, hrl, hrr⟩ := hr
            obtain ⟨i1, i2, i3, i4⟩ := least_ok b2 id2 bx2 hb2 rl hrl hrr k1 k2
            simp only [dp_nil, dp_node] at g1 g2 hd nl nr
            obtain ⟨e1, e2, e3, e4⟩ := even_ok (b := (least b2 id2 bx2 rl rr).1.1) (id := (least b2 id2 bx2 rl rr).1.2.1) i2 hl i1 (by simp only [dp_nil, dp_node]; omega) (by simp only [dp_nil, dp_node]; omega)
            simp only [dp_nil, dp_node] at e2 e3 e4
            refine ⟨e1, ?_, ?_⟩ <;> (try simp only [dp_nil, dp_node]) <;> omega
theorem del_blocks (id : Nat) : ∀ t : BT, ∀ k ∈ blocks (del id t), k ∈ blocks t
  | nil, k, h => h
  | node b id' bx' al' d l r, k, h => by
    simp only [del] at h
    simp only [blocks, List.mem_cons, List.mem_append]
    split at h
    · have h := (perm_even _ _ _ _ _).mem_iff.1 h
      simp only [List.mem_cons, List.mem_append] at h
      rcases h with h | h | h
      · exact .inl h
      · exact .inr (.inl (del_blocks id l k h))
      · exact .inr (.inr h)
    · split at h
      · have h := (perm_even _ _ _ _ _).mem_iff.1 h
        simp only [List.mem_cons, List.mem_append] at h
        rcases h with h | h | h
        · exact .inl h
        · exact .inr (.inl h)
        · exact .inr (.inr (del_blocks id r k h))
      · cases l with
        | nil => exact .inr (.inr h)
        | node b1 id1 bx1 al1' d1 l1 r1 =>
          cases r with
          | nil => exact .inr (.inl h)
          | node b2 id2 bx2 al2 d2 rl rr =>
            have h := (perm_even _ _ _ _ _).mem_iff.1 h
            have hp := perm_least b2 id2 bx2 rl rr
            simp only [List.mem_cons, List.mem_append] at h
            rcases h with h | h | h
            · exact .inr (.inr (hp.mem_iff.1 (by simp [h])))
            · exact .inr (.inl h)
            · exact .inr (.inr (hp.mem_iff.1 (by simp [h])))
theorem del_nodup (id : Nat) : ∀ t : BT, (blocks t).Nodup → (blocks (del id t)).Nodup
  | nil, h => h
  | node b id' bx' al' d l r, h => by
    simp only [blocks, List.nodup_cons, List.mem_append, not_or, List.nodup_append] at h
    obtain ⟨⟨hbl, hbr⟩, hl, hr, hd⟩ := h
    simp only [del]
    split
    · refine (perm_even _ _ _ _ _).nodup_iff.2 ?_
      simp only [List.nodup_cons, List.mem_append, not_or, List.nodup_append]
      exact ⟨⟨fun e => hbl (del_blocks id l _ e), hbr⟩, del_nodup id l hl, hr, fun a ha b hb => hd a (del_blocks id l _ ha) b hb⟩
    · split
      · refine (perm_even _ _ _ _ _).nodup_iff.2 ?_
        simp only [List.nodup_cons, List.mem_append, not_or, List.nodup_append]
        exact ⟨⟨hbl, fun e => hbr (del_blocks id r _ e)⟩, hl, del_nodup id r hr, fun a ha b hb => hd a ha b (del_blocks id r _ hb)⟩
      · cases l with
        | nil => exact hr
        | node b1 id1 bx1 al1' d1 l1 r1 =>
          cases r with
          | nil => exact hl
          | node b2 id2 bx2 al2 d2 rl rr =>
            have hp := perm_least b2 id2 bx2 rl rr
            refine (perm_even _ _ _ _ _).nodup_iff.2 ?_
            have : (blocks (node b1 id1 bx1 al1' d1 l1 r1) ++ ((least b2 id2 bx2 rl rr).1.1 :: blocks (least b2 id2 bx2 rl rr).2)).Nodup := by
              refine ((hp.append_left _).nodup_iff).2 ?_
              exact List.nodup_append.2 ⟨hl, hr, hd⟩
            exact (List.perm_middle.nodup_iff).1 this
end BT
end Tree
end Go.Proofs.Ytndghakagogmcaa
