/-
  RefI: Put whole; rows cut.
-/
import Derived.Test.YtndghakagogmcaaRefH
import Derived.Laws.IdiomCopy
namespace Go.Proofs.Ytndghakagogmcaa
open Go.RowKit Go.Shelf
set_option linter.unusedVariables false
set_option linter.unusedSimpArgs false
attribute [local go_sem] Oper.semAt_some
namespace Tree
open Mem BT
set_option maxHeartbeats 4000000 in
set_option maxRecDepth 100000 in
theorem rput_t (R : Nat) (S : Nat → Prop) (L : List (Nat × Bx)) (id : Nat) (b : Bx) (w : World) (h : RefS w R S L) (hid : El32 (id, b)) :
    Calls Try.prog 21 #[.pointer (some ⟨R, 0, none⟩), .int .u32 (id : Int), .agg #[.int .i32 b.x0, .int .i32 b.y0, .int .i32 b.x1, .int .i32 b.y1]] w (DidR R S (putR L id b) w) := by
  by_cases h123 : b.right = true ∧ hasL L id = false ∧ L.length < 65536
  · obtain ⟨h1, h2, h3⟩ := h123
    have e : putR L id b = (0, putL id b L) := by
      unfold putR
      rw [if_neg (by simp [h1]), if_neg (by simp [h2]), if_neg (by omega)]
    rw [e]
    exact rput_ok R S L id b w h hid h1 h2 h3
  have HS := Lib.hid h
  obtain ⟨ai, ci, ab, cb, hr2, hri, hel, hln, hSS⟩ := h
  obtain ⟨pos, hpos⟩ : ∃ p : Nat, p = posL L id := ⟨_, rfl⟩
  obtain ⟨n, hn⟩ : ∃ n : Nat, n = L.length := ⟨_, rfl⟩
  have HN := Lib.hid (And.intro hn hpos)
  have H2 := Lib.hid hr2
  have HK := Lib.hid ((Keeps.refl (fun _ => False) w).alloc (.cells #[.int .i32 b.x0, .int .i32 b.y0, .int .i32 b.x1, .int .i32 b.y1] 47))
  have HRt := Lib.hid (fun W => rright_ex b W)
  have HPl := Lib.hid (fun W (k : Keeps (fun _ => False) w W) => place_t R S L id W (HS.out.kd k))
  rw [← hpos] at HPl
  by_cases h1 : b.right = true
  · rw [h1] at HRt
    cases h2 : hasL L id with
    | true =>
      rw [h2] at HPl
      rw [show putR L id b = (140, L) by unfold putR; rw [if_neg (by simp [h1]), if_pos h2]]
      clear hr2 hri hel hln hSS hn hpos h123
      go_enter Try.func21, Try.ntmps21
      go_wp2_with (first | (go_at_call 44; (with_reducible refine (HRt.out _).mono ?_); rintro e w1 ⟨rfl, rfl⟩) | (go_at_call 45; (with_reducible refine (HPl.out _ (HK.out.alloc _)).mono ?_); rintro e w2 ⟨rfl, hk⟩; have hK2 := (HK.out.alloc _).trans hk; have cR := (H2.out.1.keeps hK2 (fun h => h)).cell; rw [← HN.out.1] at cR; have HK2 := Lib.hid hK2; clear hk hK2))
      go_ret
      exact DidR.same HS.out HK2.out _
    | false =>
      rw [h2] at HPl
      have h3 : 65536 ≤ L.length := Nat.le_of_not_lt fun h3 => h123 ⟨h1, h2, h3⟩
      rw [show putR L id b = (5, L) by unfold putR; rw [if_neg (by simp [h1]), if_neg (by simp [h2]), if_pos h3]]
      have hge : ((65536 : Int) ≤ (n : Int)) = True := eq_true (by omega)
      clear hr2 hri hel hln hSS hn hpos h123 h3
      go_enter Try.func21, Try.ntmps21
      go_wp2_with (first | (go_at_call 44; (with_reducible refine (HRt.out _).mono ?_); rintro e w1 ⟨rfl, rfl⟩) | (go_at_call 45; (with_reducible refine (HPl.out _ (HK.out.alloc _)).mono ?_); rintro e w2 ⟨rfl, hk⟩; have hK2 := (HK.out.alloc _).trans hk; have cR := (H2.out.1.keeps hK2 (fun h => h)).cell; rw [← HN.out.1] at cR; have HK2 := Lib.hid hK2; clear hk hK2))
      go_ret
      exact DidR.same HS.out HK2.out _
  · have h1' : b.right = false := by simpa using h1
    rw [h1'] at HRt
    rw [show putR L id b = (142, L) by unfold putR; rw [if_pos h1']]
    clear hr2 hri hel hln hSS hn hpos h123
    go_enter Try.func21, Try.ntmps21
    go_wp2_with (first | (go_at_call 44; (with_reducible refine (HRt.out _).mono ?_); rintro e w1 ⟨rfl, rfl⟩) | (go_at_call 45; (with_reducible refine (HPl.out _ (HK.out.alloc _)).mono ?_); rintro e w2 ⟨rfl, hk⟩; have hK2 := (HK.out.alloc _).trans hk; have cR := (H2.out.1.keeps hK2 (fun h => h)).cell; rw [← HN.out.1] at cR; have HK2 := Lib.hid hK2; clear hk hK2))
    go_ret
    exact DidR.same HS.out (HK.out.alloc _) _
end Tree
end Go.Proofs.Ytndghakagogmcaa
namespace Go.Proofs.Ytndghakagogmcaa
open Go.RowKit Go.Shelf
set_option linter.unusedVariables false
namespace Mem
def setL : List Value → Nat → List Value → List Value
  | xs, _, [] => xs
  | xs, o, v :: r => setL (xs.set o v) (o + 1) r
theorem setL_eq : ∀ (vs xs : List Value) (o : Nat), o + vs.length ≤ xs.length → setL xs o vs = xs.take o ++ vs ++ xs.drop (o + vs.length)
  | [], xs, o, h => by simp [setL]
  | v :: r, xs, o, h => by
    simp only [List.length_cons] at h
    rw [setL, setL_eq r (xs.set o v) (o + 1) (by rw [List.length_set]; omega)]
    have e1 : (xs.set o v).take (o + 1) = xs.take o ++ [v] := by
      rw [List.take_set]
      apply List.ext_getElem?
      intro i
      rw [List.getElem?_set, List.getElem?_append]
      simp only [List.length_take, List.getElem?_take]
      split
      · rename_i he
        subst he
        rw [if_pos (by omega), if_neg (by omega)]
        simp [Nat.min_eq_left (show o ≤ xs.length by omega)]
      · rename_i he
        by_cases hi : i < o
        · rw [if_pos (by omega), if_pos (by omega), if_pos hi]
        · rw [if_neg (by omega), if_neg (by omega)]
          have : i - min o xs.length ≠ 0 := by omega
          obtain ⟨k, hk⟩ : ∃ k, i - min o xs.length = k + 1 := ⟨i - min o xs.length - 1, by omega⟩
          rw [hk]; simp
    have e2 : (xs.set o v).drop (o + 1 + r.length) = xs.drop (o + (r.length + 1)) := by
      rw [List.drop_set, if_pos (by omega)]
      congr 1
      omega
    rw [e1, e2]
    simp
theorem row_setCells {base : Nat} {e : TypeId} {size g n cap : Nat} : ∀ (vs : List Value) (o : Nat) (w : World) (xs : List Value), w.ownsRow base e size (.slice (some ⟨g, 0, none⟩) n cap) n xs → (w.setCells g o vs).ownsRow base e size (.slice (some ⟨g, 0, none⟩) n cap) n (setL xs o vs)
  | [], o, w, xs, h => h
  | v :: r, o, w, xs, h => row_setCells r (o + 1) _ _ (h.stored o v).1
theorem keeps_setCells {g : Nat} : ∀ (vs : List Value) (o : Nat) (w : World), Keeps (fun k => k = g) w (w.setCells g o vs)
  | [], o, w => Keeps.refl _ _
  | v :: r, o, w => ((Keeps.refl _ w).setCell (p := ⟨g, o, none⟩) (by simp) v).trans (keeps_setCells r (o + 1) _)
theorem row_shrink {w : World} {base : Nat} {e : TypeId} {size g n m cap : Nat} {xs : List Value} (h : w.ownsRow base e size (.slice (some ⟨g, 0, none⟩) n cap) n xs) (hm : m ≤ n) : w.ownsRow base e size (.slice (some ⟨g, 0, none⟩) m cap) m (xs.take (m * size)) := by
  obtain ⟨hl, h⟩ := h
  have hms : m * size ≤ n * size := Nat.mul_le_mul_right _ hm
  rcases h with ⟨h, _⟩ | ⟨g', cap', cur, hv, hb, hg, hnc, hcm, hcs, ht⟩
  · simp at h
  · simp only [Value.slice.injEq, Option.some.injEq, Addr.mk.injEq, and_true, true_and] at hv
    obtain ⟨rfl, rfl⟩ := hv
    refine ⟨by rw [List.length_take]; omega, .inr ⟨g, cap, cur, rfl, hb, hg, by omega, hcm, hcs, ?_⟩⟩
    rw [← ht, List.take_take, Nat.min_eq_left hms]
theorem row_cut {w : World} {base : Nat} {e : TypeId} {size g n cap i : Nat} {xs : List Value} (h : w.ownsRow base e size (.slice (some ⟨g, 0, none⟩) n cap) n xs) (hi : i < n) :
    (w.setCells g (i * size) (xs.drop ((i + 1) * size))).ownsRow base e size (.slice (some ⟨g, 0, none⟩) (n - 1) cap) (n - 1) (xs.take (i * size) ++ xs.drop ((i + 1) * size)) := by
  have hl := h.1
  have h1 : (i + 1) * size = i * size + size := by rw [Nat.add_mul, Nat.one_mul]
  have h2 : (i + 1) * size ≤ n * size := Nat.mul_le_mul_right _ hi
  have h3 : (n - 1) * size + size = n * size := by
    have : n = (n - 1) + 1 := by omega
    rw [this, Nat.add_mul, Nat.one_mul]; simp
  have hs := row_shrink (row_setCells (xs.drop ((i + 1) * size)) (i * size) w xs h) (m := n - 1) (by omega)
  rw [setL_eq _ _ _ (by rw [List.length_drop]; omega)] at hs
  rw [List.take_append_of_le_length (by rw [List.length_append, List.length_take, List.length_drop]; omega), List.take_of_length_le (by rw [List.length_append, List.length_take, List.length_drop]; omega)] at hs
  exact hs
end Mem
namespace Tree
theorem idCells_cut (L : List (Nat × Bx)) (i : Nat) : (idCells L).take (i * 1) ++ (idCells L).drop ((i + 1) * 1) = idCells (L.take i ++ L.drop (i + 1)) := by
  rw [Nat.mul_one, Nat.mul_one, idCells_app]
  unfold idCells u32s
  rw [← List.map_take, ← List.map_take, ← List.map_drop, ← List.map_drop]
theorem boxCells_cut (L : List (Nat × Bx)) (i : Nat) : (boxCells L).take (i * 4) ++ (boxCells L).drop ((i + 1) * 4) = boxCells (L.take i ++ L.drop (i + 1)) := by
  rw [boxCells_app]
  unfold boxCells
  rw [Mem.flat_take (f := fun p : Nat × Bx => boxCs p.2) (fun _ => rfl), Mem.flat_drop (f := fun p : Nat × Bx => boxCs p.2) (fun _ => rfl)]
end Tree
end Go.Proofs.Ytndghakagogmcaa
