/-
  TakeOrder, plainly: what holds of the ring between two arrivals.
-/
import Derived.Test.YtndghakagogmcaaTakeF
namespace Go.Proofs.Ytndghakagogmcaa
open Go.RowKit
namespace Take
open Mem
structure Inv (n nx M : Nat) (rs : Ring) : Prop where
  len : rs.length = n
  pos : 1 ≤ nx
  max : nx ≤ M + 1
  all : ∀ i q, rs[i]? = some (some q) → q = pkt q.number ∧ nx ≤ q.number ∧ q.number < nx + n ∧ q.number % n = i ∧ q.number ≤ M
def Free (nx : Nat) (rs : Ring) : Prop := rs[nx % rs.length]? = some none
def mks (a b : Nat) : List Pk := (List.range' a (b - a)).map pkt
theorem mks_nil (a : Nat) : mks a a = [] := by simp [mks]
theorem mks_cons (a b : Nat) (h : a < b) : mks a b = pkt a :: mks (a + 1) b := by
  unfold mks
  rw [show b - a = (b - (a + 1)) + 1 by omega, List.range'_succ, List.map_cons]
theorem mks_append (a b c : Nat) (h1 : a ≤ b) (h2 : b ≤ c) : mks a b ++ mks b c = mks a c := by
  unfold mks
  rw [← List.map_append]
  congr 1
  rw [show c - a = (b - a) + (c - b) by omega, ← List.range'_append_1 (s := a) (m := b - a) (n := c - b), show a + (b - a) = b by omega]
theorem mks_length (a b : Nat) : (mks a b).length = b - a := by simp [mks]
theorem mod_near {a b n : Nat} (h1 : a ≤ b) (h2 : b < a + n) (h : b % n = a % n) : b = a := by
  have := Nat.sub_mod_eq_zero_of_mod_eq h
  rw [Nat.mod_eq_of_lt (by omega)] at this
  omega
theorem Inv.next {n nx M : Nat} {rs : Ring} (h : Inv n nx M rs) (q : Pk) (he : rs[nx % rs.length]? = some (some q)) : q = pkt nx ∧ Inv n (nx + 1) M (rs.set (nx % rs.length) none) := by
  have hl := h.len
  obtain ⟨e1, e2, e3, e4, e5⟩ := h.all _ q he
  have en : q.number = nx := mod_near e2 e3 (by rw [e4, hl])
  refine ⟨by rw [e1, en], ⟨by simp [hl], by omega, by omega, ?_⟩⟩
  intro i p hp
  by_cases hi : nx % rs.length = i
  · rw [List.getElem?_set, if_pos hi] at hp
    split at hp <;> simp at hp
  · rw [List.getElem?_set_ne hi] at hp
    obtain ⟨d1, d2, d3, d4, d5⟩ := h.all i p hp
    refine ⟨d1, ?_, by omega, d4, d5⟩
    have : p.number ≠ nx := fun e => hi (by rw [hl, ← e]; exact d4)
    omega
theorem rel_inv (n M : Nat) (hn : 0 < n) : ∀ (f nx : Nat) (rs : Ring), full rs ≤ f → Inv n nx M rs →
    Inv n (rel f nx rs).2.1 M (rel f nx rs).2.2 ∧ Free (rel f nx rs).2.1 (rel f nx rs).2.2 ∧ nx ≤ (rel f nx rs).2.1 ∧ (rel f nx rs).1 = mks nx (rel f nx rs).2.1
  | f, nx, rs, hf, h => by
    have hi : nx % rs.length < rs.length := Nat.mod_lt _ (by have := h.len; omega)
    rcases he : rs[nx % rs.length]? with _ | (_ | q)
    · rw [List.getElem?_eq_none_iff] at he; omega
    · rw [rel_stop f nx rs he]
      exact ⟨h, he, Nat.le_refl _, (mks_nil nx).symm⟩
    · have hs := full_set_none rs _ q he
      cases f with
      | zero => omega
      | succ f =>
        obtain ⟨hq, hI⟩ := h.next q he
        obtain ⟨g1, g2, g3, g4⟩ := rel_inv n M hn f (nx + 1) _ (by omega) hI
        rw [rel_go f nx rs q he]
        refine ⟨g1, g2, by simp only; omega, ?_⟩
        simp only
        rw [g4, hq, mks_cons nx _ (by omega)]
theorem put_inv {n nx M k : Nat} {rs : Ring} (h : Inv n nx M rs) (hk : nx ≤ k) (hk2 : k < nx + n) (hM : k ≤ M) : Inv n nx M (put rs (pkt k)) := by
  refine ⟨by rw [put_length, h.len], h.pos, h.max, ?_⟩
  intro i q hq
  unfold put at hq
  split at hq
  · rename_i he
    by_cases hi : (pkt k).number % rs.length = i
    · rw [List.getElem?_set, if_pos hi] at hq
      split at hq
      · simp only [Option.some.injEq] at hq
        subst hq
        exact ⟨rfl, hk, hk2, by rw [← hi, h.len], hM⟩
      · simp at hq
    · rw [List.getElem?_set_ne hi] at hq
      exact h.all i q hq
  · exact h.all i q hq
theorem arr_inv {n nx M k : Nat} {rs : Ring} (hn : 0 < n) (h : Inv n nx M rs) (hf : Free nx rs) (hM : k ≤ M) :
    Inv n (arr nx rs (pkt k)).2.1 M (arr nx rs (pkt k)).2.2 ∧ Free (arr nx rs (pkt k)).2.1 (arr nx rs (pkt k)).2.2 ∧ nx ≤ (arr nx rs (pkt k)).2.1 ∧ (arr nx rs (pkt k)).1 = mks nx (arr nx rs (pkt k)).2.1 ∧
      (k = nx → nx + 1 ≤ (arr nx rs (pkt k)).2.1) := by
  have hnum : (pkt k).number = k := rfl
  have hl := h.len
  unfold arr
  rw [hnum]
  by_cases hc : nx ≤ k ∧ k < nx + rs.length
  · rw [if_pos hc]
    have hI := put_inv h hc.1 (by omega) hM
    obtain ⟨g1, g2, g3, g4⟩ := rel_inv n M hn (full (put rs (pkt k))) nx _ (Nat.le_refl _) hI
    refine ⟨g1, g2, g3, g4, ?_⟩
    rintro rfl
    have he : (put rs (pkt k))[k % (put rs (pkt k)).length]? = some (some (pkt k)) := by
      rw [put_length]
      unfold put Free at *
      rw [hnum, hf]
      simp only
      rw [List.getElem?_set, if_pos rfl, if_pos (Nat.mod_lt _ (by omega))]
    rw [rel_one _ k _ he]
    have hs := full_set_none _ _ _ he
    obtain ⟨_, hI'⟩ := hI.next _ he
    exact (rel_inv n M hn _ (k + 1) _ (Nat.le_refl _) hI').2.2.1
  · rw [if_neg hc]
    exact ⟨h, hf, Nat.le_refl _, (mks_nil nx).symm, fun e => by omega⟩
theorem Inv.start (n M : Nat) : Inv n 1 M (empty n) := ⟨by simp [empty], by omega, by omega, fun i q h => by
  simp only [empty, List.getElem?_replicate] at h
  split at h <;> simp at h⟩
theorem Free.start (n : Nat) (hn : 0 < n) : Free 1 (empty n) := by
  unfold Free empty
  rw [List.length_replicate, List.getElem?_replicate, if_pos (Nat.mod_lt _ hn)]
theorem cnt_free {nx : Nat} {rs : Ring} (h : Free nx rs) (hl : 0 < rs.length) : cnt nx rs rs.length < rs.length := by
  obtain ⟨m, hm⟩ : ∃ m, rs.length = m + 1 := ⟨rs.length - 1, by omega⟩
  have := cnt_lt nx rs h m
  rw [hm]; omega
/-- a take, with the invariant. -/
def Step (base : Nat) (w : World) (TB AB LB WB tb rb n nx M k : Nat) (e : Ending) (w' : World) : Prop :=
  e = .returned (.bool true) ∧ Below base w w' ∧ ∃ nx1 rs1 a c, OS base w' TB AB LB WB tb rb n nx1 rs1 (mks 1 nx1) a c ∧ Inv n nx1 M rs1 ∧ Free nx1 rs1 ∧ nx ≤ nx1 ∧ (k = nx → nx + 1 ≤ nx1)
theorem take_step (base : Nat) (w : World) (TB AB LB WB tb rb n nx M : Nat) (rs : Ring) (a : Option Addr) (c k : Nat) (h : OS base w TB AB LB WB tb rb n nx rs (mks 1 nx) a c)
    (hI : Inv n nx M rs) (hF : Free nx rs) (hn0 : 0 < n) (hn : n ≤ 64) (hk : k ≤ M) (hM : M ≤ 1000) (hne : TB ≠ AB ∧ TB ≠ LB ∧ AB ≠ LB) :
    Calls Try.prog 15 #[.int .u64 (k : Int), .pointer (some ⟨TB, 0, none⟩), .pointer (some ⟨AB, 0, none⟩), .pointer (some ⟨LB, 0, none⟩), .pointer (some ⟨WB, 0, none⟩)] w
      (Step base w TB AB LB WB tb rb n nx M k) := by
  obtain ⟨g1, g2, g3, g4, g5⟩ := arr_inv hn0 hI hF hk
  rcases hr : arr nx rs (pkt k) with ⟨o1, nx1, rs1⟩
  rw [hr] at g1 g2 g3 g4 g5
  simp only at g1 g2 g3 g4 g5
  have hl1 := g1.len
  have hl := hI.len
  have hp := hI.pos
  have hm := hI.max
  have hm1 := g1.max
  have hc := cnt_free g2 (by omega)
  refine (take_any base w TB AB LB WB tb rb n nx rs (mks 1 nx) a c k o1 nx1 rs1 h hr hne hp (by omega) (by omega) (by omega) (by omega) (by rw [g4, mks_length, mks_length]; omega) g3 (by omega) (by omega) (by omega)).mono ?_
  rintro e w' ⟨rfl, ⟨a', c', hO⟩, hB⟩
  refine ⟨rfl, hB, nx1, rs1, a', c', ?_, g1, g2, g3, g5⟩
  rw [g4, mks_append 1 nx nx1 hp g3] at hO
  exact hO
end Take
end Go.Proofs.Ytndghakagogmcaa
