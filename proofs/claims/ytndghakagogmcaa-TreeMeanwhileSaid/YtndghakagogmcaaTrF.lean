/-
  TrF: even, with.
-/
import Derived.Test.YtndghakagogmcaaTrE
import Derived.Test.YtndghakagogmcaaTrEa
import Derived.Test.YtndghakagogmcaaTrEb
import Derived.Test.YtndghakagogmcaaTrEc
import Derived.Test.YtndghakagogmcaaTrEd
namespace Go.Proofs.Ytndghakagogmcaa
open Go.RowKit
set_option linter.unusedVariables false
set_option linter.unusedSimpArgs false
attribute [local go_sem] Oper.semAt_some
namespace Tree
open Mem BT
theorem even_t (b id : Nat) (bx : Bx) (l r : BT) (w : World) (h : Nd 800 w b id bx l r) :
    Calls Try.prog 58 #[.pointer (some ⟨b, 0, none⟩)] w (Made (even b id bx l r) (fun k => k ∈ b :: (blocks l ++ blocks r)) w) := by
  have nl := fine_dp h.fl
  have nr := fine_dp h.fr
  unfold even
  split
  · rename_i h1
    cases l with
    | nil => simp only [dp_nil] at h1; omega
    | node b' id' bx' al' d' ll lr =>
      dsimp only
      split
      · rename_i h2; exact even_low2 b id bx b' id' bx' al' d' ll lr r w h h1 h2
      · rename_i h2; exact even_low1 b id bx b' id' bx' al' d' ll lr r w h h1 h2
  · split
    · rename_i h0 h1
      cases r with
      | nil => simp only [dp_nil] at h1; omega
      | node b' id' bx' al' d' rl rr =>
        dsimp only
        split
        · rename_i h2; exact even_high2 b id bx b' id' bx' al' d' rl rr l w h h1 h2
        · rename_i h2; exact even_high1 b id bx b' id' bx' al' d' rl rr l w h h1 h2
    · rename_i h1 h2
      exact even_flat b id bx l r w h h1 h2
theorem Nd.of_node {M : Int} {w : World} {b id : Nat} {bx al : Bx} {d : Int} {l r : BT} (h : IsT w (node b id bx al d l r)) (hf : Fine (node b id bx al d l r)) (hn : (blocks (node b id bx al d l r)).Nodup) (hd : d ≤ M) : Nd M w b id bx l r := by
  have e := hf.2.2.1
  have := fine_dp hf.2.2.2.1; have := fine_dp hf.2.2.2.2
  exact ⟨⟨al, d, h.1⟩, h.2.1, h.2.2, hn, hf.2.2.2.1, hf.2.2.2.2, hf.1, by omega, by omega⟩
set_option maxHeartbeats 4000000 in
set_option maxRecDepth 100000 in
theorem with_t (nb id : Nat) (bx : Bx) (hb : bx.right = true) : ∀ (t : BT) (w : World), IsT w t → Ok t → (blocks t).Nodup → nb ∉ blocks t → dp t ≤ 700 → (∃ al d, Blk w nb 96 (ncells id bx al none none d)) →
    Calls Try.prog 43 #[.pointer (ptr t), .pointer (some ⟨nb, 0, none⟩)] w (Made (ins nb id bx t) (fun k => k ∈ nb :: blocks t) w)
  | nil, w, _, _, _, _, _, ⟨al, d, hB⟩ => by
    have HS := Lib.hid (summed_t nb id bx nil nil w ⟨⟨al, d, hB⟩, trivial, trivial, by simp [blocks], trivial, trivial, hb, by simp [dp_nil], by simp [dp_nil]⟩)
    clear hB
    rw [show ptr nil = none from rfl]
    go_enter Try.func43, Try.ntmps43
    go_wp2_with (go_at_call 57; (with_reducible refine HS.out.mono ?_); rintro e w4 ⟨rfl, hk4, hT4⟩)
    go_ret
    exact ⟨rfl, hk4.mono (fun k _ e => by rw [e]; simp), hT4⟩
  | node b id' bx' al' d' l r, w, hT, hO, hn, hnb, hd, ⟨al, d, hB⟩ => by
    have hnd := Nd.of_node hT (ok_fine hO) hn hd
    have hnl := (List.nodup_append.1 (List.nodup_cons.1 hn).2).1
    have hnr := (List.nodup_append.1 (List.nodup_cons.1 hn).2).2.1
    simp only [blocks, List.mem_cons, List.mem_append, not_or] at hnb
    have IL := Lib.hid (with_t nb id bx hb l w.drew (hT.2.1.kd (Keeps.refl _ w).drew) hO.2.2.2.2.2.1 hnl hnb.2.1 hnd.dl ⟨al, d, hB⟩)
    have IR := Lib.hid (with_t nb id bx hb r w.drew (hT.2.2.kd (Keeps.refl _ w).drew) hO.2.2.2.2.2.2 hnr hnb.2.2 hnd.dr ⟨al, d, hB⟩)
    have hal : ∀ _ : Unit, (b :: (nb :: blocks l ++ blocks r)).Perm (nb :: b :: (blocks l ++ blocks r)) := fun _ => List.Perm.swap _ _ _
    have har : (b :: (blocks l ++ (nb :: blocks r))).Perm (nb :: b :: (blocks l ++ blocks r)) := ((List.perm_middle).cons b).trans (List.Perm.swap _ _ _)
    have hno : (nb :: b :: (blocks l ++ blocks r)).Nodup := List.nodup_cons.2 ⟨by simp only [List.mem_cons, List.mem_append, not_or]; exact hnb, hn⟩
    have pl := ((perm_ins nb id bx l).append_right (blocks r)).cons b |>.trans (hal ())
    have pr := ((perm_ins nb id bx r).append_left (blocks l)).cons b |>.trans har
    have ol := ins_ok nb id bx hb hO.2.2.2.2.2.1
    have or_ := ins_ok nb id bx hb hO.2.2.2.2.2.2
    have hdl := hnd.dl
    have hdr := hnd.dr
    have hL2 : ∀ e w1, Made (ins nb id bx l) (fun k => k ∈ nb :: blocks l) w.drew e w1 → e = .returned (.pointer (ptr (ins nb id bx l))) ∧ w1.cell? ⟨b, 9, none⟩ = some (.pointer (ptr l)) ∧ (∀ i, w1.frozen? ⟨b, i, none⟩ = false) ∧ Calls Try.prog 58 #[.pointer (some ⟨b, 0, none⟩)] (w1.setCell ⟨b, 9, none⟩ (.pointer (ptr (ins nb id bx l)))) (Made (even b id' bx' (ins nb id bx l) r) (fun k => k ∈ nb :: blocks (node b id' bx' al' d' l r)) w) := by
      rintro e w1 ⟨rfl, hk, hT1⟩
      replace hk := (Keeps.refl _ w).drew.trans hk
      have hf : ∀ k ∈ nb :: blocks l, k ≠ b ∧ k ∉ blocks r := fun k hx => by
        rcases List.mem_cons.1 hx with rfl | hx
        · exact ⟨hnb.1, hnb.2.2⟩
        · exact hnd.far k hx
      have hB1 := hT.1.keeps hk (fun e => (hf _ e).1 rfl)
      have hN := hnd.setL (N := 800) hk hf hT1 (pl.nodup_iff.2 hno) (ok_fine ol.1) (by omega) (by omega)
      refine ⟨rfl, hB1.cell 9, hB1.frozen, (even_t b id' bx' _ r _ hN).mono fun e w' hm => Made.after hm ((hk.mono (fun k _ hx => ?_)).setCell (by simp [blocks]) _) (fun k hx => pl.mem_iff.1 hx)⟩
      rcases List.mem_cons.1 hx with rfl | hx
      · exact List.mem_cons_self ..
      · simp only [blocks, List.mem_cons, List.mem_append]; exact .inr (.inr (.inl hx))
    have hR2 : ∀ e w1, Made (ins nb id bx r) (fun k => k ∈ nb :: blocks r) w.drew e w1 → e = .returned (.pointer (ptr (ins nb id bx r))) ∧ w1.cell? ⟨b, 10, none⟩ = some (.pointer (ptr r)) ∧ (∀ i, w1.frozen? ⟨b, i, none⟩ = false) ∧ Calls Try.prog 58 #[.pointer (some ⟨b, 0, none⟩)] (w1.setCell ⟨b, 10, none⟩ (.pointer (ptr (ins nb id bx r)))) (Made (even b id' bx' l (ins nb id bx r)) (fun k => k ∈ nb :: blocks (node b id' bx' al' d' l r)) w) := by
      rintro e w1 ⟨rfl, hk, hT1⟩
      replace hk := (Keeps.refl _ w).drew.trans hk
      have hf : ∀ k ∈ nb :: blocks r, k ≠ b ∧ k ∉ blocks l := fun k hx => by
        rcases List.mem_cons.1 hx with rfl | hx
        · exact ⟨hnb.1, hnb.2.1⟩
        · exact hnd.farR k hx
      have hB1 := hT.1.keeps hk (fun e => (hf _ e).1 rfl)
      have hN := hnd.setR (N := 800) hk hf hT1 (pr.nodup_iff.2 hno) (ok_fine or_.1) (by omega) (by omega)
      refine ⟨rfl, hB1.cell 10, hB1.frozen, (even_t b id' bx' l _ _ hN).mono fun e w' hm => Made.after hm ((hk.mono (fun k _ hx => ?_)).setCell (by simp [blocks]) _) (fun k hx => pr.mem_iff.1 hx)⟩
      rcases List.mem_cons.1 hx with rfl | hx
      · exact List.mem_cons_self ..
      · simp only [blocks, List.mem_cons, List.mem_append]; exact .inr (.inr (.inr hx))
    have cB := hB.cell 0
    have cT := hT.1.cell
    unfold ncells at cB cT
    simp only [List.getElem?_cons_zero] at cB
    have HL2 := Lib.hid hL2
    have HR2 := Lib.hid hR2
    clear hL2 hR2 hB hnd hnl hnr hT hal har hno pl pr ol or_ hdl hdr
    rw [show ptr (node b id' bx' al' d' l r) = some ⟨b, 0, none⟩ from rfl]
    by_cases hc : id < id'
    · rw [show ins nb id bx (node b id' bx' al' d' l r) = even b id' bx' (ins nb id bx l) r by simp only [ins, if_pos hc]]
      go_enter Try.func43, Try.ntmps43
      go_wp2
      go_region
      all_goals
        go_wp2_with (first
          | (go_at_call 43; (with_reducible refine IL.out.mono ?_); intro e w4 hm4; obtain ⟨rfl, c4, f4, hS4⟩ := HL2.out e w4 hm4; have HS4 := Lib.hid hS4; clear hm4 hS4)
          | (go_at_call 58; (with_reducible refine HS4.out.mono ?_); rintro e w5 ⟨rfl, hk4, hT4⟩))
        go_ret
        exact ⟨rfl, hk4, hT4⟩
    · rw [show ins nb id bx (node b id' bx' al' d' l r) = even b id' bx' l (ins nb id bx r) by simp only [ins, if_neg hc]]
      go_enter Try.func43, Try.ntmps43
      go_wp2
      go_region
      all_goals
        go_wp2_with (first
          | (go_at_call 43; (with_reducible refine IR.out.mono ?_); intro e w4 hm4; obtain ⟨rfl, c4, f4, hS4⟩ := HR2.out e w4 hm4; have HS4 := Lib.hid hS4; clear hm4 hS4)
          | (go_at_call 58; (with_reducible refine HS4.out.mono ?_); rintro e w5 ⟨rfl, hk4, hT4⟩))
        go_ret
        exact ⟨rfl, hk4, hT4⟩
end Tree
end Go.Proofs.Ytndghakagogmcaa
