/-
Avl: the tree as a plain thing: what the program's moves make of it, and that it stays even. No program in sight.
AvlB: the list that stands in the tree, how deep it is at most, and what may be passed over.
TrA: how a tree lies in memory; depth.
-/
import Derived.Test.YtdbpfbokfmpgcaaGreatZauTreeCTreeDTrMTreeBaTreeE
import Derived.Test.YtdbpfbokfmpgcaaGreatZaaMemIterTreeAHeldGrowIter
set_option linter.unusedVariables false
set_option linter.unusedSimpArgs false
attribute [local go_sem] Go.Oper.semAt_some
namespace Go.Proofs.YtdbpfbokfmpgcaaGreat
theorem ZBU {p : Prop} (h : p := by simp [hx]) : p := h
namespace Tree
inductive BT where
 | nil
 | node (b : Nat) (id : Nat) (bx al : Bx) (dp : Int) (l r : BT)
namespace BT
def ptr : BT → Option Addr
 | nil => none
 | node b _ _ _ _ _ _ => some ⟨b, 0, none⟩
def dp : BT → Int
 | nil => 0
 | node _ _ _ _ d _ _ => d
theorem dp_nil : dp nil = 0 := rfl
theorem dp_node (b id : Nat) (bx al : Bx) (d : Int) (l r : BT) : dp (node b id bx al d l r) = d := rfl
def blocks : BT → List Nat
 | nil => []
 | node b _ _ _ _ l r => b :: (blocks l ++ blocks r)
def inord : BT → List (Nat × Bx)
 | nil => []
 | node _ id bx _ _ l r => inord l ++ (id, bx) :: inord r
def al1 : BT → Bx → Bx
 | nil, a => a
 | node _ _ _ al _ _ _, a => a.join al
def mk' (b id : Nat) (bx : Bx) (l r : BT) : BT := node b id bx (al1 r (al1 l bx)) (1 + max (dp l) (dp r)) l r
def rotL (b id : Nat) (bx : Bx) (l r : BT) : BT :=
 match l with
 | node b' id' bx' _ _ ll lr => mk' b' id' bx' ll (mk' b id bx lr r)
 | nil => mk' b id bx nil r
def rotH (b id : Nat) (bx : Bx) (l r : BT) : BT :=
 match r with
 | node b' id' bx' _ _ rl rr => mk' b' id' bx' (mk' b id bx l rl) rr
 | nil => mk' b id bx l nil
def even (b id : Nat) (bx : Bx) (l r : BT) : BT :=
 if dp l - dp r = 2 then
  match l with
  | node b' id' bx' al' d' ll lr => rotL b id bx (if dp ll < dp lr then rotH b' id' bx' ll lr else node b' id' bx' al' d' ll lr) r
  | nil => mk' b id bx nil r
 else if dp l - dp r = -2 then
  match r with
  | node b' id' bx' al' d' rl rr => rotH b id bx l (if dp rr < dp rl then rotL b' id' bx' rl rr else node b' id' bx' al' d' rl rr)
  | nil => mk' b id bx l nil
 else mk' b id bx l r
def ins (nb id : Nat) (bx : Bx) : BT → BT
 | nil => mk' nb id bx nil nil
 | node b id' bx' _ _ l r => if id < id' then even b id' bx' (ins nb id bx l) r else even b id' bx' l (ins nb id bx r)
def least (b id : Nat) (bx : Bx) : BT → BT → (Nat × Nat × Bx) × BT
 | nil, r => ((b, id, bx), r)
 | node b' id' bx' _ _ ll lr, r => ((least b' id' bx' ll lr).1, even b id bx (least b' id' bx' ll lr).2 r)
def del (id : Nat) : BT → BT
 | nil => nil
 | node b id' bx' _ _ l r =>
  if id < id' then even b id' bx' (del id l) r
  else if id' < id then even b id' bx' l (del id r)
  else match l, r with
   | nil, r => r
   | l, nil => l
   | l, node b2 id2 bx2 _ _ rl rr => even (least b2 id2 bx2 rl rr).1.1 (least b2 id2 bx2 rl rr).1.2.1 (least b2 id2 bx2 rl rr).1.2.2 l (least b2 id2 bx2 rl rr).2
def Ok : BT → Prop
 | nil => True
 | node _ _ bx al d l r => bx.right = true ∧ al = al1 r (al1 l bx) ∧ d = 1 + max (dp l) (dp r) ∧ dp l - dp r ≤ 1 ∧ dp r - dp l ≤ 1 ∧ Ok l ∧ Ok r
theorem dp_nonneg : ∀ {t : BT}, Ok t → 0 ≤ dp t
 | nil, _ => Int.le_refl _
 | node _ _ _ _ d l r, h => by
  obtain ⟨_, _, rfl, _, _, hl, hr⟩ := h
  have := dp_nonneg hl; have := dp_nonneg hr
  simp only [dp_nil, dp_node]; omega
@[simp] theorem dp_mk (b id : Nat) (bx : Bx) (l r : BT) : dp (mk' b id bx l r) = 1 + max (dp l) (dp r) := rfl
@[simp] theorem inord_mk (b id : Nat) (bx : Bx) (l r : BT) : inord (mk' b id bx l r) = inord l ++ (id, bx) :: inord r := rfl
@[simp] theorem blocks_mk (b id : Nat) (bx : Bx) (l r : BT) : blocks (mk' b id bx l r) = b :: (blocks l ++ blocks r) := rfl
theorem inord_rotL (b id : Nat) (bx : Bx) (l r : BT) : inord (rotL b id bx l r) = inord l ++ (id, bx) :: inord r := by
 cases l <;> simp [rotL, inord]
theorem inord_rotH (b id : Nat) (bx : Bx) (l r : BT) : inord (rotH b id bx l r) = inord l ++ (id, bx) :: inord r := by
 cases r <;> simp [rotH, inord]
theorem perm_rotL (b id : Nat) (bx : Bx) (l r : BT) : (blocks (rotL b id bx l r)).Perm (b :: (blocks l ++ blocks r)) := by
 cases l with
 | nil => simp [rotL, blocks]
 | node b' id' bx' al' d' ll lr =>
  simp only [rotL, blocks_mk, blocks, List.cons_append, List.append_assoc]
  refine ((List.perm_middle).cons b').trans ?_
  exact List.Perm.swap _ _ _
theorem perm_rotH (b id : Nat) (bx : Bx) (l r : BT) : (blocks (rotH b id bx l r)).Perm (b :: (blocks l ++ blocks r)) := by
 cases r with
 | nil => simp [rotH, blocks]
 | node b' id' bx' al' d' rl rr =>
  simp only [rotH, blocks_mk, blocks, List.cons_append, List.append_assoc]
  refine (List.Perm.swap _ _ _).trans ?_
  exact ((List.perm_middle).symm).cons b
theorem inord_even (b id : Nat) (bx : Bx) (l r : BT) : inord (even b id bx l r) = inord l ++ (id, bx) :: inord r := by
 unfold even
 split
 ·cases l with
  | nil => simp
  | node b' id' bx' al' d' ll lr =>
   simp only [inord_rotL]
   split <;> simp [inord_rotH, inord]
 ·split
  ·cases r with
   | nil => simp
   | node b' id' bx' al' d' rl rr =>
    simp only [inord_rotH]
    split <;> simp [inord_rotL, inord]
  ·simp
theorem perm_even (b id : Nat) (bx : Bx) (l r : BT) : (blocks (even b id bx l r)).Perm (b :: (blocks l ++ blocks r)) := by
 unfold even
 split
 ·cases l with
  | nil => simp
  | node b' id' bx' al' d' ll lr =>
   refine (perm_rotL _ _ _ _ _).trans ?_
   split
   ·exact ((perm_rotH _ _ _ _ _).append_right _).cons _
   ·exact List.Perm.refl _
 ·split
  ·cases r with
   | nil => simp
   | node b' id' bx' al' d' rl rr =>
    refine (perm_rotH _ _ _ _ _).trans ?_
    split
    ·exact ((perm_rotL _ _ _ _ _).append_left _).cons _
    ·exact List.Perm.refl _
  ·simp
theorem even_ok {b id : Nat} {bx : Bx} {l r : BT} (hb : bx.right = true) (hl : Ok l) (hr : Ok r) (h1 : dp l - dp r ≤ 2) (h2 : dp r - dp l ≤ 2) :
 Ok (even b id bx l r) ∧ max (dp l) (dp r) ≤ dp (even b id bx l r) ∧ dp (even b id bx l r) ≤ 1 + max (dp l) (dp r) ∧ (dp l - dp r ≤ 1 → dp r - dp l ≤ 1 → dp (even b id bx l r) = 1 + max (dp l) (dp r)) := by
 have nl := dp_nonneg hl
 have nr := dp_nonneg hr
 unfold even
 split
 ·rename_i h
  cases l with
  | nil => simp only [dp_nil, dp_node] at h; omega
  | node b' id' bx' al' d' ll lr =>
   obtain ⟨hb', ha, hd, g1, g2, hll, hlr⟩ := hl
   have n1 := dp_nonneg hll
   have n2 := dp_nonneg hlr
   simp only [dp_nil, dp_node] at *
   by_cases hc : dp ll < dp lr
   ·simp only [hc, if_true]
    cases lr with
    | nil => simp only [dp_nil, dp_node] at hc; omega
    | node b3 id3 bx3 al3 d3 l3 r3 =>
     obtain ⟨hb3, ha3, hd3, g3, g4, hl3, hr3⟩ := hlr
     have n3 := dp_nonneg hl3
     have n4 := dp_nonneg hr3
     simp only [dp_nil, dp_node] at *
     simp only [rotH, rotL, mk', dp_nil, dp_node]
     refine ⟨⟨hb3, rfl, rfl, ?_, ?_, ⟨hb', rfl, rfl, ?_, ?_, hll, hl3⟩, hb, rfl, rfl, ?_, ?_, hr3, hr⟩, ?_, ?_, ?_⟩ <;> (try simp only [dp_nil, dp_node]) <;> omega
   ·simp only [hc, if_false]
    simp only [rotL, mk', dp_nil, dp_node]
    refine ⟨⟨hb', rfl, rfl, ?_, ?_, hll, hb, rfl, rfl, ?_, ?_, hlr, hr⟩, ?_, ?_, ?_⟩ <;> (try simp only [dp_nil, dp_node]) <;> omega
 ·split
  ·rename_i h0 h
   cases r with
   | nil => simp only [dp_nil, dp_node] at h; omega
   | node b' id' bx' al' d' rl rr =>
    obtain ⟨hb', ha, hd, g1, g2, hrl, hrr⟩ := hr
    have n1 := dp_nonneg hrl
    have n2 := dp_nonneg hrr
    simp only [dp_nil, dp_node] at *
    by_cases hc : dp rr < dp rl
    ·simp only [hc, if_true]
     cases rl with
     | nil => simp only [dp_nil, dp_node] at hc; omega
     | node b3 id3 bx3 al3 d3 l3 r3 =>
      obtain ⟨hb3, ha3, hd3, g3, g4, hl3, hr3⟩ := hrl
      have n3 := dp_nonneg hl3
      have n4 := dp_nonneg hr3
      simp only [dp_nil, dp_node] at *
      simp only [rotH, rotL, mk', dp_nil, dp_node]
      refine ⟨⟨hb3, rfl, rfl, ?_, ?_, ⟨hb, rfl, rfl, ?_, ?_, hl, hl3⟩, hb', rfl, rfl, ?_, ?_, hr3, hrr⟩, ?_, ?_, ?_⟩ <;> (try simp only [dp_nil, dp_node]) <;> omega
    ·simp only [hc, if_false]
     simp only [rotH, mk', dp_nil, dp_node]
     refine ⟨⟨hb', rfl, rfl, ?_, ?_, ⟨hb, rfl, rfl, ?_, ?_, hl, hrl⟩, hrr⟩, ?_, ?_, ?_⟩ <;> (try simp only [dp_nil, dp_node]) <;> omega
  ·exact ⟨⟨hb, rfl, rfl, Z8, Z8, hl, hr⟩, by simp only [mk', dp_node]; omega, by simp only [mk', dp_node]; omega, fun _ _ => rfl⟩
theorem ins_ok (nb id : Nat) (bx : Bx) (hb : bx.right = true) : ∀ {t : BT}, Ok t → Ok (ins nb id bx t) ∧ dp t ≤ dp (ins nb id bx t) ∧ dp (ins nb id bx t) ≤ 1 + dp t
 | nil, _ => ⟨⟨hb, rfl, rfl, by simp [dp], by simp [dp], trivial, trivial⟩, by simp [ins, mk', dp], by simp [ins, mk', dp]⟩
 | node b id' bx' al' d l r, h => by
  obtain ⟨hb', ha, hd, g1, g2, hl, hr⟩ := h
  simp only [ins]
  split
  ·obtain ⟨k1, k2, k3⟩ := ins_ok nb id bx hb hl
   obtain ⟨e1, e2, e3, e4⟩ := even_ok (b := b) (id := id') hb' k1 hr Z8 Z8
   refine ⟨e1, ?_, ?_⟩ <;> (try simp only [dp_nil, dp_node]) <;> omega
  ·obtain ⟨k1, k2, k3⟩ := ins_ok nb id bx hb hr
   obtain ⟨e1, e2, e3, e4⟩ := even_ok (b := b) (id := id') hb' hl k1 Z8 Z8
   refine ⟨e1, ?_, ?_⟩ <;> (try simp only [dp_nil, dp_node]) <;> omega
theorem perm_ins (nb id : Nat) (bx : Bx) : ∀ t : BT, (blocks (ins nb id bx t)).Perm (nb :: blocks t)
 | nil => List.Perm.refl _
 | node b id' bx' al' d l r => by
  simp only [ins]
  split
  ·refine (perm_even _ _ _ _ _).trans ?_
   refine (((perm_ins nb id bx l).append_right _).cons b).trans ?_
   exact List.Perm.swap _ _ _
  ·refine (perm_even _ _ _ _ _).trans ?_
   refine (((perm_ins nb id bx r).append_left _).cons b).trans ?_
   exact ((List.perm_middle).cons b).trans (List.Perm.swap _ _ _)
theorem least_ok (b id : Nat) (bx : Bx) (hb : bx.right = true) : ∀ (l : BT) {r : BT}, Ok l → Ok r → dp l - dp r ≤ 1 → dp r - dp l ≤ 1 →
 Ok (least b id bx l r).2 ∧ (least b id bx l r).1.2.2.right = true ∧ max (dp l) (dp r) ≤ dp (least b id bx l r).2 ∧ dp (least b id bx l r).2 ≤ 1 + max (dp l) (dp r)
 | nil, r, _, hr, g1, g2 => by
  have := dp_nonneg hr
  simp only [dp_nil, dp_node] at g1 g2
  refine ⟨hr, hb, ?_, ?_⟩ <;> simp only [least, dp_nil, dp_node] <;> omega
 | node b' id' bx' al' d' ll lr, r, hl, hr, g1, g2 => by
  obtain ⟨hb', ha, hd, k1, k2, hll, hlr⟩ := hl
  obtain ⟨i1, i2, i3, i4⟩ := least_ok b' id' bx' hb' ll hll hlr k1 k2
  simp only [dp_nil, dp_node] at g1 g2
  obtain ⟨e1, e2, e3, e4⟩ := even_ok (b := b) (id := id) hb i1 hr Z8 Z8
  simp only [least]
  refine ⟨e1, i2, ?_, ?_⟩ <;> (try simp only [dp_nil, dp_node]) <;> omega
theorem inord_least (b id : Nat) (bx : Bx) : ∀ l r : BT, (least b id bx l r).1.2 :: inord (least b id bx l r).2 = inord l ++ (id, bx) :: inord r
 | nil, r => rfl
 | node b' id' bx' al' d' ll lr, r => by
  simp only [least, inord_even, inord]
  rw [← inord_least b' id' bx' ll lr]
  rfl
theorem perm_least (b id : Nat) (bx : Bx) : ∀ l r : BT, ((least b id bx l r).1.1 :: blocks (least b id bx l r).2).Perm (b :: (blocks l ++ blocks r))
 | nil, r => List.Perm.refl _
 | node b' id' bx' al' d' ll lr, r => by
  simp only [least]
  refine ((perm_even _ _ _ _ _).cons _).trans ((List.Perm.swap _ _ _).trans (List.Perm.cons b ?_))
  exact (perm_least b' id' bx' ll lr).append_right (blocks r)
theorem del_ok (id : Nat) : ∀ {t : BT}, Ok t → Ok (del id t) ∧ dp (del id t) ≤ dp t ∧ dp t ≤ 1 + dp (del id t)
 | nil, _ => ⟨trivial, by simp [del], by simp [del, dp]⟩
 | node b id' bx' al' d l r, h => by
  obtain ⟨hb', ha, hd, g1, g2, hl, hr⟩ := h
  have nl := dp_nonneg hl
  have nr := dp_nonneg hr
  simp only [del]
  split
  ·obtain ⟨k1, k2, k3⟩ := del_ok id hl
   obtain ⟨e1, e2, e3, e4⟩ := even_ok (b := b) (id := id') hb' k1 hr Z8 Z8
   refine ⟨e1, ?_, ?_⟩ <;> (try simp only [dp_nil, dp_node]) <;> omega
  ·split
   ·obtain ⟨k1, k2, k3⟩ := del_ok id hr
    obtain ⟨e1, e2, e3, e4⟩ := even_ok (b := b) (id := id') hb' hl k1 Z8 Z8
    refine ⟨e1, ?_, ?_⟩ <;> (try simp only [dp_nil, dp_node]) <;> omega
   ·cases l with
    | nil =>
     simp only [dp_nil, dp_node] at *
     exact ⟨hr, Z8, Z8⟩
    | node b1 id1 bx1 al1' d1 l1 r1 =>
     cases r with
     | nil =>
      simp only [dp_nil, dp_node] at *
      exact ⟨hl, Z8, Z8⟩
     | node b2 id2 bx2 al2 d2 rl rr =>
      obtain ⟨hb2, ha2, hd2, k1, k2, hrl, hrr⟩ := hr
      obtain ⟨i1, i2, i3, i4⟩ := least_ok b2 id2 bx2 hb2 rl hrl hrr k1 k2
      simp only [dp_nil, dp_node] at g1 g2 hd nl nr
      obtain ⟨e1, e2, e3, e4⟩ := even_ok (b := (least b2 id2 bx2 rl rr).1.1) (id := (least b2 id2 bx2 rl rr).1.2.1) i2 hl i1 (by simp only [dp_nil, dp_node]; omega) (by simp only [dp_nil, dp_node]; omega)
      simp only [dp_nil, dp_node] at e2 e3 e4
      refine ⟨e1, ?_, ?_⟩ <;> (try simp only [dp_nil, dp_node]) <;> omega
theorem del_blocks (id : Nat) : ∀ t : BT, ∀ k ∈ blocks (del id t), k ∈ blocks t
 | nil, k, h => h
 | node b id' bx' al' d l r, k, h => by
  simp only [del] at h
  simp only [blocks, List.mem_cons, List.mem_append]
  split at h
  ·have h := (perm_even _ _ _ _ _).mem_iff.1 h
   simp only [List.mem_cons, List.mem_append] at h
   rcases h with h | h | h
   ·exact .inl h
   ·exact .inr (.inl (del_blocks id l k h))
   ·exact .inr (.inr h)
  ·split at h
   ·have h := (perm_even _ _ _ _ _).mem_iff.1 h
    simp only [List.mem_cons, List.mem_append] at h
    rcases h with h | h | h
    ·exact .inl h
    ·exact .inr (.inl h)
    ·exact .inr (.inr (del_blocks id r k h))
   ·cases l with
    | nil => exact .inr (.inr h)
    | node b1 id1 bx1 al1' d1 l1 r1 =>
     cases r with
     | nil => exact .inr (.inl h)
     | node b2 id2 bx2 al2 d2 rl rr =>
      have h := (perm_even _ _ _ _ _).mem_iff.1 h
      have hp := perm_least b2 id2 bx2 rl rr
      simp only [List.mem_cons, List.mem_append] at h
      rcases h with h | h | h
      ·exact .inr (.inr (hp.mem_iff.1 (by simp [h])))
      ·exact .inr (.inl h)
      ·exact .inr (.inr (hp.mem_iff.1 (by simp [h])))
theorem del_nodup (id : Nat) : ∀ t : BT, (blocks t).Nodup → (blocks (del id t)).Nodup
 | nil, h => h
 | node b id' bx' al' d l r, h => by
  simp only [blocks, List.nodup_cons, List.mem_append, not_or, List.nodup_append] at h
  obtain ⟨⟨hbl, hbr⟩, hl, hr, hd⟩ := h
  simp only [del]
  split
  ·refine (perm_even _ _ _ _ _).nodup_iff.2 ?_
   simp only [List.nodup_cons, List.mem_append, not_or, List.nodup_append]
   exact ⟨⟨fun e => hbl (del_blocks id l _ e), hbr⟩, del_nodup id l hl, hr, fun a ha b hb => hd a (del_blocks id l _ ha) b hb⟩
  ·split
   ·refine (perm_even _ _ _ _ _).nodup_iff.2 ?_
    simp only [List.nodup_cons, List.mem_append, not_or, List.nodup_append]
    exact ⟨⟨hbl, fun e => hbr (del_blocks id r _ e)⟩, hl, del_nodup id r hr, fun a ha b hb => hd a ha b (del_blocks id r _ hb)⟩
   ·cases l with
    | nil => exact hr
    | node b1 id1 bx1 al1' d1 l1 r1 =>
     cases r with
     | nil => exact hl
     | node b2 id2 bx2 al2 d2 rl rr =>
      have hp := perm_least b2 id2 bx2 rl rr
      refine (perm_even _ _ _ _ _).nodup_iff.2 ?_
      have : (blocks (node b1 id1 bx1 al1' d1 l1 r1) ++ ((least b2 id2 bx2 rl rr).1.1 :: blocks (least b2 id2 bx2 rl rr).2)).Nodup := by
       refine ((hp.append_left _).nodup_iff).2 ?_
       exact List.nodup_append.2 ⟨hl, hr, hd⟩
      exact (List.perm_middle.nodup_iff).1 this
end BT
end Tree
namespace Tree
def Rising (L : List (Nat × Bx)) : Prop := L.Pairwise fun a b => a.1 < b.1
def putL (id : Nat) (bx : Bx) : List (Nat × Bx) → List (Nat × Bx)
 | [] => [(id, bx)]
 | p :: L => if id < p.1 then (id, bx) :: p :: L else p :: putL id bx L
def delL (id : Nat) (L : List (Nat × Bx)) : List (Nat × Bx) := L.filter fun p => p.1 != id
theorem Rising.app {A B : List (Nat × Bx)} {p : Nat × Bx} : Rising (A ++ p :: B) ↔ Rising A ∧ Rising B ∧ (∀ a ∈ A, a.1 < p.1) ∧ (∀ b ∈ B, p.1 < b.1) := by
 unfold Rising
 rw [List.pairwise_append, List.pairwise_cons]
 constructor
 ·rintro ⟨h1, ⟨h2, h3⟩, h4⟩
  exact ⟨h1, h3, fun a ha => h4 a ha p ZA7, h2⟩
 ·rintro ⟨h1, h2, h3, h4⟩
  refine ⟨h1, ⟨h4, h2⟩, fun a ha b hb => ?_⟩
  rcases List.mem_cons.1 hb with rfl | hb
  ·exact h3 a ha
  ·exact Nat.lt_trans (h3 a ha) (h4 b hb)
theorem putL_left (id : Nat) (bx : Bx) (p : Nat × Bx) (B : List (Nat × Bx)) (hp : id < p.1) : ∀ A : List (Nat × Bx), putL id bx (A ++ p :: B) = putL id bx A ++ p :: B
 | [] => by simp [putL, hp]
 | a :: A => by
  simp only [List.cons_append, putL]
  split
  ·rfl
  ·rw [putL_left id bx p B hp A]; rfl
theorem putL_right (id : Nat) (bx : Bx) (p : Nat × Bx) (B : List (Nat × Bx)) (hp : ¬ id < p.1) : ∀ A : List (Nat × Bx), (∀ a ∈ A, a.1 < p.1) → putL id bx (A ++ p :: B) = A ++ p :: putL id bx B
 | [], _ => by simp [putL, hp]
 | a :: A, h => by
  have h1 := h a ZA7
  simp only [List.cons_append, putL]
  rw [if_neg Z8, putL_right id bx p B hp A (fun x hx => h x ZBU)]
theorem putL_mem (id : Nat) (bx : Bx) : ∀ (L : List (Nat × Bx)) (x : Nat × Bx), x ∈ putL id bx L ↔ x = (id, bx) ∨ x ∈ L
 | [], x => by simp [putL]
 | p :: L, x => by
  simp only [putL]
  split
  ·simp
  ·simp only [List.mem_cons, putL_mem id bx L x]
   constructor
   ·rintro (h | h | h)
    ·exact .inr (.inl h)
    ·exact .inl h
    ·exact .inr (.inr h)
   ·rintro (h | h | h)
    ·exact .inr (.inl h)
    ·exact .inl h
    ·exact .inr (.inr h)
theorem putL_rising (id : Nat) (bx : Bx) : ∀ (L : List (Nat × Bx)), Rising L → (∀ p ∈ L, p.1 ≠ id) → Rising (putL id bx L)
 | [], _, _ => by simp [putL, Rising]
 | p :: L, h, hn => by
  have h' := List.pairwise_cons.1 h
  have hp := hn p ZA7
  simp only [putL]
  split
  ·refine List.pairwise_cons.2 ⟨fun a ha => ?_, h⟩
   rcases List.mem_cons.1 ha with rfl | ha
   ·assumption
   ·have := h'.1 a ha; simp only; omega
  ·refine List.pairwise_cons.2 ⟨fun a ha => ?_, putL_rising id bx L h'.2 (fun p hp => hn p (by simp [hp]))⟩
   rcases (putL_mem id bx L a).1 ha with rfl | ha
   ·simp only; omega
   ·exact h'.1 a ha
theorem putL_length (id : Nat) (bx : Bx) : ∀ (L : List (Nat × Bx)), (putL id bx L).length = L.length + 1
 | [] => rfl
 | p :: L => by
  simp only [putL]
  split
  ·rfl
  ·simp [putL_length id bx L]
theorem delL_rising (id : Nat) {L : List (Nat × Bx)} (h : Rising L) : Rising (delL id L) := h.filter _
theorem delL_none (id : Nat) {L : List (Nat × Bx)} (h : ∀ p ∈ L, p.1 ≠ id) : delL id L = L := by
 unfold delL
 rw [List.filter_eq_self]
 intro p hp
 simpa using h p hp
namespace BT
theorem inord_ins (nb id : Nat) (bx : Bx) : ∀ t : BT, Rising (inord t) → inord (ins nb id bx t) = putL id bx (inord t)
 | nil, _ => rfl
 | node b id' bx' al d l r, h => by
  obtain ⟨h1, h2, h3, h4⟩ := Rising.app.1 h
  simp only [ins]
  split
  ·rename_i hlt
   rw [inord_even, inord_ins nb id bx l h1]
   exact (putL_left id bx (id', bx') (inord r) hlt (inord l)).symm
  ·rename_i hge
   rw [inord_even, inord_ins nb id bx r h2]
   exact (putL_right id bx (id', bx') (inord r) hge (inord l) h3).symm
theorem inord_del (id : Nat) : ∀ t : BT, Rising (inord t) → inord (del id t) = delL id (inord t)
 | nil, _ => rfl
 | node b id' bx' al d l r, h => by
  obtain ⟨h1, h2, h3, h4⟩ := Rising.app.1 h
  have hf : delL id (inord (node b id' bx' al d l r)) = delL id (inord l) ++ (if id' ≠ id then (id', bx') :: delL id (inord r) else delL id (inord r)) := by
   simp only [inord, delL, List.filter_append, List.filter_cons, bne_iff_ne]
  rw [hf]
  simp only [del]
  split
  ·rename_i hlt
   rw [inord_even, inord_del id l h1, if_pos Z8, delL_none id (L := inord r) (fun p hp => by have := h4 p hp; simp only at this; omega)]
  ·split
   ·rename_i hgt
    rw [inord_even, inord_del id r h2, if_pos Z8, delL_none id (L := inord l) (fun p hp => by have := h3 p hp; simp only at this; omega)]
   ·have he : id' = id := by omega
    subst he
    have e1 := delL_none id' (L := inord l) (fun p hp => by have := h3 p hp; simp only at this; omega)
    have e2 := delL_none id' (L := inord r) (fun p hp => by have := h4 p hp; simp only at this; omega)
    rw [e1, e2, if_neg ZA7]
    cases l with
    | nil => rfl
    | node b1 id1 bx1 al1' d1 l1 r1 =>
     cases r with
     | nil => simp [inord]
     | node b2 id2 bx2 al2 d2 rl rr =>
      simp only [inord_even]
      rw [show (((least b2 id2 bx2 rl rr).1.2.1, (least b2 id2 bx2 rl rr).1.2.2) : Nat × Bx) = (least b2 id2 bx2 rl rr).1.2 from rfl, inord_least]
      rfl
theorem pow_half (h : Nat) : 2 ^ ((h + 2 + 1) / 2) = 2 * 2 ^ ((h + 1) / 2) := by
 rw [show (h + 2 + 1) / 2 = (h + 1) / 2 + 1 by omega, Nat.pow_succ]; omega
theorem many : ∀ {t : BT}, Ok t → 2 ^ (((dp t).toNat + 1) / 2) ≤ (inord t).length + 1 := by
 have main : ∀ (n : Nat) (t : BT), (inord t).length < n → Ok t → 2 ^ (((dp t).toNat + 1) / 2) ≤ (inord t).length + 1 := by
  intro n
  induction n with
  | zero => intro t h; omega
  | succ n ih =>
   intro t hn h
   cases t with
   | nil => simp [dp, inord]
   | node b id bx al d l r =>
    obtain ⟨_, _, hd, g1, g2, hl, hr⟩ := h
    have nl := dp_nonneg hl
    have nr := dp_nonneg hr
    simp only [inord, List.length_append, List.length_cons] at hn
    have i1 := ih l Z8 hl
    have i2 := ih r Z8 hr
    simp only [inord, List.length_append, List.length_cons, dp_node]
    have key : ∀ a b : Nat, a ≤ b → 2 ^ ((a + 1) / 2) ≤ 2 ^ ((b + 1) / 2) := fun a b hab => Nat.pow_le_pow_right Z8 Z8
    by_cases hm : dp l = 0 ∧ dp r = 0
    ·have : d = 1 := by omega
     subst this
     have := Nat.one_le_two_pow (n := ((dp l).toNat + 1) / 2)
     simp
     omega
    ·obtain ⟨m, hm2⟩ : ∃ m : Nat, d.toNat = m + 2 := ⟨d.toNat - 2, Z8⟩
     rw [hm2, pow_half]
     have j1 := key m (dp l).toNat Z8
     have j2 := key m (dp r).toNat Z8
     omega
 intro t h
 exact main _ t (Nat.lt_succ_self _) h
theorem deepest {t : BT} (h : Ok t) {d : Nat} (hl : (inord t).length < 2 ^ d) : dp t ≤ 2 * d := by
 have h1 := many h
 have h2 := dp_nonneg h
 have h3 : 2 ^ (((dp t).toNat + 1) / 2) ≤ 2 ^ d := by omega
 have h4 := (Nat.pow_le_pow_iff_right (by omega : 1 < 2)).1 h3
 omega
def Within (a b : Bx) : Prop := b.x0 ≤ a.x0 ∧ b.y0 ≤ a.y0 ∧ a.x1 ≤ b.x1 ∧ a.y1 ≤ b.y1
theorem join_right {a b : Bx} (ha : a.right = true) (hb : b.right = true) : (a.join b).right = true := by
 simp only [Bx.right, Bool.and_eq_true, decide_eq_true_eq] at *
 show min a.x0 b.x0 ≤ max a.x1 b.x1 ∧ min a.y0 b.y0 ≤ max a.y1 b.y1
 omega
theorem join_left (a b : Bx) : Within a (a.join b) := by
 simp only [Within, Bx.join]; omega
theorem join_snd (a b : Bx) : Within b (a.join b) := by
 simp only [Within, Bx.join]; omega
theorem Within.trans {a b c : Bx} (h : Within a b) (g : Within b c) : Within a c := by
 simp only [Within] at *; omega
theorem Within.refl (a : Bx) : Within a a := by
 simp only [Within]; omega
def alOf : BT → Bx → Bx
 | nil, a => a
 | node _ _ _ al _ _ _, _ => al
theorem covers : ∀ {t : BT}, Ok t → (∀ p ∈ inord t, p.2.right = true) ∧ (∀ a : Bx, a.right = true → (al1 t a).right = true) ∧ (∀ a : Bx, Within a (al1 t a)) ∧ (∀ a : Bx, ∀ p ∈ inord t, Within p.2 (al1 t a)) ∧
 (∀ a, t ≠ nil → (alOf t a).right = true ∧ ∀ p ∈ inord t, Within p.2 (alOf t a))
 | nil, _ => ⟨fun p hp => by simp [inord] at hp, fun a ha => ha, fun a => Within.refl a, fun a p hp => by simp [inord] at hp, fun a h => (h rfl).elim⟩
 | node b id bx al d l r, h => by
  obtain ⟨hb, rfl, _, _, _, hl, hr⟩ := h
  obtain ⟨l1, l2, l3, l4, _⟩ := covers hl
  obtain ⟨r1, r2, r3, r4, _⟩ := covers hr
  have hal : (al1 r (al1 l bx)).right = true := r2 _ (l2 _ hb)
  have hin : ∀ p ∈ inord (node b id bx (al1 r (al1 l bx)) d l r), Within p.2 (al1 r (al1 l bx)) := by
   intro p hp
   simp only [inord, List.mem_append, List.mem_cons] at hp
   rcases hp with hp | rfl | hp
   ·exact (l4 bx p hp).trans (r3 _)
   ·exact (l3 bx).trans (r3 _)
   ·exact r4 _ p hp
  refine ⟨?_, fun a ha => join_right ha hal, fun a => join_left _ _, fun a p hp => (hin p hp).trans (join_snd _ _), fun a _ => ⟨hal, hin⟩⟩
  intro p hp
  simp only [inord, List.mem_append, List.mem_cons] at hp
  rcases hp with hp | rfl | hp
  ·exact l1 p hp
  ·exact hb
  ·exact r1 p hp
theorem meet_within {a b c : Bx} (ha : a.right = true) (hb : b.right = true) (h : Within a b) (hm : a.meet c = true) : b.meet c = true := by
 simp only [Bx.meet, Bx.right, Within, Bool.and_eq_true, decide_eq_true_eq] at *
 omega
theorem passed {b id : Nat} {bx al : Bx} {d : Int} {l r : BT} (h : Ok (node b id bx al d l r)) {c : Bx} (hm : al.meet c = false) :
 (inord (node b id bx al d l r)).filter (fun p => p.2.meet c) = [] := by
 have hc := covers h
 obtain ⟨h1, h2⟩ := hc.2.2.2.2 al ZA7
 rw [List.filter_eq_nil_iff]
 intro p hp hmp
 have := meet_within (hc.1 p hp) h1 (h2 p hp) hmp
 rw [show alOf (node b id bx al d l r) al = al from rfl, hm] at this
 cases this
end BT
end Tree
open Go.RowKit
namespace Tree
open Mem BT
def ncells (id : Nat) (bx al : Bx) (pl pr : Option Addr) (d : Int) : List Value :=
 [.int .u32 (id : Int), .int .i32 bx.x0, .int .i32 bx.y0, .int .i32 bx.x1, .int .i32 bx.y1, .int .i32 al.x0, .int .i32 al.y0, .int .i32 al.x1, .int .i32 al.y1, .pointer pl, .pointer pr, .int .i64 d]
def IsT (w : World) : BT → Prop
 | nil => True
 | node b id bx al d l r => Blk w b 201 (ncells id bx al (ptr l) (ptr r) d) ∧ IsT w l ∧ IsT w r
theorem IsT.keeps {S : Nat → Prop} {w w' : World} (k : Keeps S w w') : ∀ {t : BT}, IsT w t → (∀ x ∈ blocks t, ¬ S x) → IsT w' t
 | nil, _, _ => trivial
 | node b id bx al d l r, h, hs =>
  ⟨h.1.keeps k (hs b (by simp [blocks])), IsT.keeps k h.2.1 (fun x hx => hs x (by simp [blocks, hx])), IsT.keeps k h.2.2 (fun x hx => hs x (by simp [blocks, hx]))⟩
theorem IsT.kd {w w' : World} (k : Keeps (fun _ => False) w w') {t : BT} (h : IsT w t) : IsT w' t := h.keeps k (fun _ _ h => h)
theorem IsT.lt {w : World} : ∀ {t : BT}, IsT w t → ∀ x ∈ blocks t, x < w.heap.size
 | nil, _, x, hx => by simp [blocks] at hx
 | node b id bx al d l r, h, x, hx => by
  simp only [blocks, List.mem_cons, List.mem_append] at hx
  rcases hx with rfl | hx | hx
  ·exact h.1.lt
  ·exact h.2.1.lt x hx
  ·exact h.2.2.lt x hx
theorem depth_any (t : BT) (w : World) (h : IsT w t) : Calls Tryz.prog 166 #[.pointer (ptr t)] w fun e w' => e = .returned (.int .i64 (dp t)) ∧ w = w' := by
 cases t with
 | nil =>
  go_enter Tryz.func166, Tryz.ntmps166
  simp only [ptr]
  go_wp2
  go_ret
  exact ⟨rfl, rfl⟩
 | node b id bx al d l r =>
  have cb := h.1.cell
  unfold ncells at cb
  go_enter Tryz.func166, Tryz.ntmps166
  simp only [ptr]
  go_wp2
  go_ret
  exact ⟨rfl, rfl⟩
theorem join_b (a b : Bx) (w : World) (ha : a.right = true) (hb : b.right = true) :
 Calls Tryz.prog 136 #[.agg #[.int .i32 a.x0, .int .i32 a.y0, .int .i32 a.x1, .int .i32 a.y1], .agg #[.int .i32 b.x0, .int .i32 b.y0, .int .i32 b.x1, .int .i32 b.y1]] w (Gave (Bx.join a b).val w) := by
 simp only [Bx.right, Bool.and_eq_true, decide_eq_true_eq] at ha hb
 exact join_any a b w ha.1 ha.2 hb.1 hb.2
def Fine : BT → Prop
 | nil => True
 | node _ _ bx al d l r => bx.right = true ∧ al = al1 r (al1 l bx) ∧ d = 1 + max (dp l) (dp r) ∧ Fine l ∧ Fine r
theorem ok_fine : ∀ {t : BT}, Ok t → Fine t
 | nil, _ => trivial
 | node _ _ _ _ _ _ _, ⟨h1, h2, h3, _, _, hl, hr⟩ => ⟨h1, h2, h3, ok_fine hl, ok_fine hr⟩
theorem fine_dp : ∀ {t : BT}, Fine t → 0 ≤ dp t
 | nil, _ => Int.le_refl _
 | node _ _ _ _ d l r, h => by
  obtain ⟨_, _, rfl, hl, hr⟩ := h
  have := fine_dp hl; have := fine_dp hr
  simp only [dp_nil, dp_node]; omega
theorem fine_al1 {t : BT} (h : Fine t) : ∀ {a : Bx}, a.right = true → (al1 t a).right = true := by
 induction t with
 | nil => intro a ha; exact ha
 | node b id bx al d l r il ir =>
  intro a ha
  obtain ⟨hb, rfl, hd, hl, hr⟩ := h
  exact join_right ha (ir hr (il hl hb))
theorem fine_al {b id : Nat} {bx al : Bx} {d : Int} {l r : BT} (h : Fine (node b id bx al d l r)) : al.right = true := by
 obtain ⟨hb, rfl, hd, hl, hr⟩ := h
 exact fine_al1 hr (fine_al1 hl hb)
theorem mk_fine {b id : Nat} {bx : Bx} {l r : BT} (hb : bx.right = true) (hl : Fine l) (hr : Fine r) : Fine (mk' b id bx l r) := ⟨hb, rfl, rfl, hl, hr⟩
end Tree
end Go.Proofs.YtdbpfbokfmpgcaaGreat
