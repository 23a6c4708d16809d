/-
  TrC: upLow, upHigh.
-/
import Derived.Test.YtndghakagogmcaaTrB
namespace Go.Proofs.Ytndghakagogmcaa
open Go.RowKit
set_option linter.unusedVariables false
set_option linter.unusedSimpArgs false
attribute [local go_sem] Oper.semAt_some
namespace Tree
open Mem BT
/-- a node that may not be summed up yet, and what lies below it -/
structure Nd (M : Int) (w : World) (b id : Nat) (bx : Bx) (l r : BT) : Prop where
  blk : ∃ al d, Blk w b 96 (ncells id bx al (ptr l) (ptr r) d)
  isl : IsT w l
  isr : IsT w r
  nodup : (b :: (blocks l ++ blocks r)).Nodup
  fl : Fine l
  fr : Fine r
  right : bx.right = true
  dl : dp l ≤ M
  dr : dp r ≤ M
theorem Nd.bl {M : Int} {w : World} {b id : Nat} {bx : Bx} {l r : BT} (h : Nd M w b id bx l r) : b ∉ blocks l := fun hx => (List.nodup_cons.1 h.nodup).1 (List.mem_append.2 (.inl hx))
theorem Nd.br {M : Int} {w : World} {b id : Nat} {bx : Bx} {l r : BT} (h : Nd M w b id bx l r) : b ∉ blocks r := fun hx => (List.nodup_cons.1 h.nodup).1 (List.mem_append.2 (.inr hx))
def Made (t : BT) (S : Nat → Prop) (w : World) (e : Ending) (w' : World) : Prop := e = .returned (.pointer (ptr t)) ∧ Keeps S w w' ∧ IsT w' t
theorem summed_t (b id : Nat) (bx : Bx) (l r : BT) (w : World) (h : Nd 1000 w b id bx l r) :
    Calls Try.prog 57 #[.pointer (some ⟨b, 0, none⟩)] w (Made (mk' b id bx l r) (fun k => k = b) w) := by
  obtain ⟨al, d, hB⟩ := h.blk
  refine (summed_any b id bx al d l r w hB h.isl h.isr h.bl h.br h.fl h.fr h.right h.dl h.dr).mono ?_
  rintro e w' ⟨rfl, hk, hB'⟩
  exact ⟨rfl, hk, hB', h.isl.keeps hk (fun x hx e => h.bl (e ▸ hx)), h.isr.keeps hk (fun x hx e => h.br (e ▸ hx))⟩
set_option maxHeartbeats 4000000 in
set_option maxRecDepth 100000 in
theorem upLow_t (b id : Nat) (bx : Bx) (b' id' : Nat) (bx' al' : Bx) (d' : Int) (ll lr r : BT) (w : World) (h : Nd 900 w b id bx (node b' id' bx' al' d' ll lr) r) :
    Calls Try.prog 66 #[.pointer (some ⟨b, 0, none⟩)] w (Made (rotL b id bx (node b' id' bx' al' d' ll lr) r) (fun k => k = b ∨ k = b') w) := by
  obtain ⟨al, d, hB⟩ := h.blk
  have hn := h.nodup
  simp only [blocks, List.cons_append, List.nodup_cons, List.mem_cons, List.mem_append, List.append_assoc, not_or] at hn
  have hbb : b ≠ b' := hn.1.1
  have hK2 := ((Keeps.refl (fun k => k = b ∨ k = b') w).setCell (p := ⟨b, 9, none⟩) (by simp) (.pointer (ptr lr))).setCell (p := ⟨b', 10, none⟩) (by simp) (.pointer (some ⟨b, 0, none⟩))
  have hB2 := (hB.set_ 9 (.pointer (ptr lr))).far (p := ⟨b', 10, none⟩) hbb (.pointer (some ⟨b, 0, none⟩))
  have hC2 := (h.isl.1.far (p := ⟨b, 9, none⟩) (Ne.symm hbb) (.pointer (ptr lr))).set_ 10 (.pointer (some ⟨b, 0, none⟩))
  have hll2 := h.isl.2.1.keeps hK2 (by rintro x hx (rfl | rfl); exact hn.1.2.1 hx; exact hn.2.1.1 hx)
  have hlr2 := h.isl.2.2.keeps hK2 (by rintro x hx (rfl | rfl); exact hn.1.2.2.1 hx; exact hn.2.1.2.1 hx)
  have hr2 := h.isr.keeps hK2 (by rintro x hx (rfl | rfl); exact hn.1.2.2.2 hx; exact hn.2.1.2.2 hx)
  have hd := h.dl
  obtain ⟨f1, f2, f3, f4, f5⟩ := h.fl
  have hdl : dp ll ≤ 901 ∧ dp lr ≤ 900 := by
    simp only [dp_node] at hd; omega
  have hdr := h.dr
  have cB := hB.cell
  have cC := h.isl.1.cell
  have fB := hB.frozen
  have fC := h.isl.1.frozen
  unfold ncells at cB cC
  rw [show ptr (node b' id' bx' al' d' ll lr) = some ⟨b', 0, none⟩ from rfl] at cB
  have S1 := Lib.hid (summed_any b id bx al d lr r _ hB2 hlr2 hr2 hn.1.2.2.1 hn.1.2.2.2 f5 h.fr h.right (by omega) (by omega))
  have hfr := h.fr
  have hri := h.right
  have hbll := hn.1.2.1
  have hS2 : ∀ w3, Summed b id bx lr r ((w.setCell ⟨b, 9, none⟩ (.pointer (ptr lr))).setCell ⟨b', 10, none⟩ (.pointer (some ⟨b, 0, none⟩))) (.returned (.pointer (some ⟨b, 0, none⟩))) w3 →
      Calls Try.prog 57 #[.pointer (some ⟨b', 0, none⟩)] w3 (Made (rotL b id bx (node b' id' bx' al' d' ll lr) r) (fun k => k = b ∨ k = b') w) := by
    rintro w3 ⟨_, hk3, hB3⟩
    have hM : IsT w3 (mk' b id bx lr r) := ⟨hB3, hlr2.keeps hk3 (fun x hx e => hn.1.2.2.1 (e ▸ hx)), hr2.keeps hk3 (fun x hx e => hn.1.2.2.2 (e ▸ hx))⟩
    have hL3 := hll2.keeps hk3 (fun x hx e => hbll (e ▸ hx))
    refine (summed_any b' id' bx' al' d' ll (mk' b id bx lr r) w3 (hC2.keeps hk3 (Ne.symm hbb)) hL3 hM hn.2.1.1 (by simp only [blocks_mk, List.mem_cons, List.mem_append, not_or]; exact ⟨Ne.symm hbb, hn.2.1.2⟩) f4 (mk_fine h.right f5 h.fr) f1 (by omega) (by simp only [dp_mk]; omega)).mono ?_
    rintro e w4 ⟨rfl, hk4, hB4⟩
    exact ⟨rfl, (hK2.trans (hk3.mono (fun k _ e => .inl e))).trans (hk4.mono (fun k _ e => .inr e)), hB4, hL3.keeps hk4 (fun x hx e => hn.2.1.1 (e ▸ hx)), hM.keeps hk4 (by
      simp only [blocks_mk, List.mem_cons, List.mem_append]
      rintro x (rfl | hx | hx) e
      · exact hbb e
      · exact hn.2.1.2.1 (e ▸ hx)
      · exact hn.2.1.2.2 (e ▸ hx))⟩
  have HS2 := Lib.hid hS2
  clear hS2 hB h hC2 hK2 hll2 hr2 hlr2
  go_enter Try.func66, Try.ntmps66
  go_wp2_with (first
    | (go_at_call 57; (with_reducible refine S1.out.mono ?_); rintro e w3 ⟨rfl, h3⟩; have HS3 := Lib.hid (HS2.out w3 ⟨rfl, h3⟩); clear h3)
    | (go_at_call 57; (with_reducible refine HS3.out.mono ?_); rintro e w4 ⟨rfl, hk4, hT4⟩))
  go_ret
  exact ⟨rfl, hk4, hT4⟩
set_option maxHeartbeats 4000000 in
set_option maxRecDepth 100000 in
theorem upHigh_t (b id : Nat) (bx : Bx) (b' id' : Nat) (bx' al' : Bx) (d' : Int) (l rl rr : BT) (w : World) (h : Nd 900 w b id bx l (node b' id' bx' al' d' rl rr)) :
    Calls Try.prog 65 #[.pointer (some ⟨b, 0, none⟩)] w (Made (rotH b id bx l (node b' id' bx' al' d' rl rr)) (fun k => k = b ∨ k = b') w) := by
  obtain ⟨al, d, hB⟩ := h.blk
  have hn := h.nodup
  simp only [blocks, List.nodup_cons, List.nodup_append, List.mem_cons, List.mem_append, not_or] at hn
  obtain ⟨⟨nbl, hbb, nbrl, nbrr⟩, nl, ⟨⟨nbrl', nbrr'⟩, nrl, nrr, nlr⟩, nx⟩ := hn
  have nbl' : b' ∉ blocks l := fun hx => nx _ hx _ (.inl rfl) rfl
  have hK2 := ((Keeps.refl (fun k => k = b ∨ k = b') w).setCell (p := ⟨b, 10, none⟩) (by simp) (.pointer (ptr rl))).setCell (p := ⟨b', 9, none⟩) (by simp) (.pointer (some ⟨b, 0, none⟩))
  have hB2 := (hB.set_ 10 (.pointer (ptr rl))).far (p := ⟨b', 9, none⟩) hbb (.pointer (some ⟨b, 0, none⟩))
  have hC2 := (h.isr.1.far (p := ⟨b, 10, none⟩) (Ne.symm hbb) (.pointer (ptr rl))).set_ 9 (.pointer (some ⟨b, 0, none⟩))
  have hrr2 := h.isr.2.2.keeps hK2 (by rintro x hx (rfl | rfl); exact nbrr hx; exact nbrr' hx)
  have hrl2 := h.isr.2.1.keeps hK2 (by rintro x hx (rfl | rfl); exact nbrl hx; exact nbrl' hx)
  have hl2 := h.isl.keeps hK2 (by rintro x hx (rfl | rfl); exact nbl hx; exact nbl' hx)
  have hd := h.dr
  obtain ⟨f1, f2, f3, f4, f5⟩ := h.fr
  have hdl : dp rl ≤ 900 ∧ dp rr ≤ 900 := by
    simp only [dp_node] at hd; omega
  have hdr := h.dl
  have cB := hB.cell
  have cC := h.isr.1.cell
  have fB := hB.frozen
  have fC := h.isr.1.frozen
  unfold ncells at cB cC
  rw [show ptr (node b' id' bx' al' d' rl rr) = some ⟨b', 0, none⟩ from rfl] at cB
  have S1 := Lib.hid (summed_any b id bx al d l rl _ hB2 hl2 hrl2 nbl nbrl h.fl f4 h.right (by omega) (by omega))
  have hS2 : ∀ w3, Summed b id bx l rl ((w.setCell ⟨b, 10, none⟩ (.pointer (ptr rl))).setCell ⟨b', 9, none⟩ (.pointer (some ⟨b, 0, none⟩))) (.returned (.pointer (some ⟨b, 0, none⟩))) w3 →
      Calls Try.prog 57 #[.pointer (some ⟨b', 0, none⟩)] w3 (Made (rotH b id bx l (node b' id' bx' al' d' rl rr)) (fun k => k = b ∨ k = b') w) := by
    rintro w3 ⟨_, hk3, hB3⟩
    have hM : IsT w3 (mk' b id bx l rl) := ⟨hB3, hl2.keeps hk3 (fun x hx e => nbl (e ▸ hx)), hrl2.keeps hk3 (fun x hx e => nbrl (e ▸ hx))⟩
    have hR3 := hrr2.keeps hk3 (fun x hx e => nbrr (e ▸ hx))
    refine (summed_any b' id' bx' al' d' (mk' b id bx l rl) rr w3 (hC2.keeps hk3 (Ne.symm hbb)) hM hR3 (by simp only [blocks_mk, List.mem_cons, List.mem_append, not_or]; exact ⟨Ne.symm hbb, nbl', nbrl'⟩) nbrr' (mk_fine h.right h.fl f4) f5 f1 (by simp only [dp_mk]; omega) (by omega)).mono ?_
    rintro e w4 ⟨rfl, hk4, hB4⟩
    exact ⟨rfl, (hK2.trans (hk3.mono (fun k _ e => .inl e))).trans (hk4.mono (fun k _ e => .inr e)), hB4, hM.keeps hk4 (by
      simp only [blocks_mk, List.mem_cons, List.mem_append]
      rintro x (rfl | hx | hx) e
      · exact hbb e
      · exact nbl' (e ▸ hx)
      · exact nbrl' (e ▸ hx)), hR3.keeps hk4 (fun x hx e => nbrr' (e ▸ hx))⟩
  have HS2 := Lib.hid hS2
  clear hS2 hB h hC2 hK2 hl2 hrl2 hrr2 nx nlr nrr nrl nl
  go_enter Try.func65, Try.ntmps65
  go_wp2_with (first
    | (go_at_call 57; (with_reducible refine S1.out.mono ?_); rintro e w3 ⟨rfl, h3⟩; have HS3 := Lib.hid (HS2.out w3 ⟨rfl, h3⟩); clear h3)
    | (go_at_call 57; (with_reducible refine HS3.out.mono ?_); rintro e w4 ⟨rfl, hk4, hT4⟩))
  go_ret
  exact ⟨rfl, hk4, hT4⟩
end Tree
end Go.Proofs.Ytndghakagogmcaa
