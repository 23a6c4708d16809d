/-
  TrD: even.
-/
import Derived.Test.YtndghakagogmcaaTrC
namespace Go.Proofs.Ytndghakagogmcaa
open Go.RowKit
set_option linter.unusedVariables false
set_option linter.unusedSimpArgs false
attribute [local go_sem] Oper.semAt_some
namespace Tree
open Mem BT
theorem rotL_fine {b id : Nat} {bx : Bx} {l r : BT} (hb : bx.right = true) (hl : Fine l) (hr : Fine r) : Fine (rotL b id bx l r) := by
  cases l with
  | nil => exact mk_fine hb hl hr
  | node => exact mk_fine hl.1 hl.2.2.2.1 (mk_fine hb hl.2.2.2.2 hr)
theorem rotH_fine {b id : Nat} {bx : Bx} {l r : BT} (hb : bx.right = true) (hl : Fine l) (hr : Fine r) : Fine (rotH b id bx l r) := by
  cases r with
  | nil => exact mk_fine hb hl hr
  | node => exact mk_fine hr.1 (mk_fine hb hl hr.2.2.2.1) hr.2.2.2.2
theorem dp_rotL {b id : Nat} {bx : Bx} {l r : BT} (hl : Fine l) (hr : Fine r) : dp (rotL b id bx l r) ≤ 2 + max (dp l) (dp r) := by
  cases l with
  | nil => simp only [rotL, dp_mk, dp_nil]; omega
  | node =>
    have := fine_dp hl.2.2.2.1; have := fine_dp hl.2.2.2.2
    have h := hl.2.2.1
    simp only [rotL, dp_mk, dp_node]; omega
theorem dp_rotH {b id : Nat} {bx : Bx} {l r : BT} (hl : Fine l) (hr : Fine r) : dp (rotH b id bx l r) ≤ 2 + max (dp l) (dp r) := by
  cases r with
  | nil => simp only [rotH, dp_mk, dp_nil]; omega
  | node =>
    have := fine_dp hr.2.2.2.1; have := fine_dp hr.2.2.2.2
    have h := hr.2.2.1
    simp only [rotH, dp_mk, dp_node]; omega
theorem rotL_ne (b id : Nat) (bx : Bx) (l r : BT) : rotL b id bx l r ≠ nil := by
  cases l <;> simp [rotL, mk']
theorem rotH_ne (b id : Nat) (bx : Bx) (l r : BT) : rotH b id bx l r ≠ nil := by
  cases r <;> simp [rotH, mk']
theorem Made.mono {t : BT} {S T : Nat → Prop} {w w' : World} {e : Ending} (h : Made t S w e w') (hs : ∀ k, S k → T k) : Made t T w e w' := ⟨h.1, h.2.1.mono (fun k _ => hs k), h.2.2⟩
theorem Made.after {t : BT} {S T : Nat → Prop} {w0 w w' : World} {e : Ending} (h : Made t S w e w') (hk : Keeps T w0 w) (hs : ∀ k, S k → T k) : Made t T w0 e w' := ⟨h.1, hk.trans (h.2.1.mono (fun k _ => hs k)), h.2.2⟩
theorem upLow_n (b id : Nat) (bx : Bx) (l r : BT) (w : World) (h : Nd 900 w b id bx l r) (hl : l ≠ nil) :
    Calls Try.prog 66 #[.pointer (some ⟨b, 0, none⟩)] w (Made (rotL b id bx l r) (fun k => k ∈ b :: (blocks l ++ blocks r)) w) := by
  cases l with
  | nil => exact (hl rfl).elim
  | node b' id' bx' al' d' ll lr =>
    refine (upLow_t b id bx b' id' bx' al' d' ll lr r w h).mono fun e w' hm => hm.mono ?_
    rintro k (rfl | rfl) <;> simp [blocks]
theorem upHigh_n (b id : Nat) (bx : Bx) (l r : BT) (w : World) (h : Nd 900 w b id bx l r) (hl : r ≠ nil) :
    Calls Try.prog 65 #[.pointer (some ⟨b, 0, none⟩)] w (Made (rotH b id bx l r) (fun k => k ∈ b :: (blocks l ++ blocks r)) w) := by
  cases r with
  | nil => exact (hl rfl).elim
  | node b' id' bx' al' d' ll lr =>
    refine (upHigh_t b id bx b' id' bx' al' d' l ll lr w h).mono fun e w' hm => hm.mono ?_
    rintro k (rfl | rfl) <;> simp [blocks]
theorem Nd.mono {M N : Int} {w : World} {b id : Nat} {bx : Bx} {l r : BT} (h : Nd M w b id bx l r) (hm : M ≤ N) : Nd N w b id bx l r :=
  ⟨h.blk, h.isl, h.isr, h.nodup, h.fl, h.fr, h.right, Int.le_trans h.dl hm, Int.le_trans h.dr hm⟩
theorem Nd.kd {M : Int} {w w' : World} {b id : Nat} {bx : Bx} {l r : BT} (h : Nd M w b id bx l r) (k : Keeps (fun _ => False) w w') : Nd M w' b id bx l r := by
  obtain ⟨al, d, hB⟩ := h.blk
  exact ⟨⟨al, d, hB.keeps k (fun h => h)⟩, h.isl.kd k, h.isr.kd k, h.nodup, h.fl, h.fr, h.right, h.dl, h.dr⟩
/-- another tree on the left, made of what lay there (or of new blocks) -/
theorem Nd.setL {M N : Int} {w w1 : World} {b id : Nat} {bx : Bx} {l l1 r : BT} {S : Nat → Prop} (h : Nd M w b id bx l r) (hk : Keeps S w w1) (hs : ∀ k, S k → k ≠ b ∧ k ∉ blocks r) (h1 : IsT w1 l1) (hp : (b :: (blocks l1 ++ blocks r)).Nodup) (hf : Fine l1) (hd : dp l1 ≤ N) (hM : M ≤ N) :
    Nd N (w1.setCell ⟨b, 9, none⟩ (.pointer (ptr l1))) b id bx l1 r := by
  obtain ⟨al, d, hB⟩ := h.blk
  have hB1 := hB.keeps hk (fun e => (hs _ e).1 rfl)
  have k2 := (Keeps.refl (fun k => k = b) w1).setCell (p := ⟨b, 9, none⟩) (by simp) (.pointer (ptr l1))
  have hn := List.nodup_cons.1 hp
  exact ⟨⟨al, d, hB1.set_ 9 _⟩, h1.keeps k2 (fun x hx e => hn.1 (List.mem_append.2 (.inl (e ▸ hx)))), (h.isr.keeps hk (fun x hx e => (hs _ e).2 hx)).keeps k2 (fun x hx e => h.br (e ▸ hx)), hp, hf, h.fr, h.right, hd, Int.le_trans h.dr hM⟩
theorem Nd.setR {M N : Int} {w w1 : World} {b id : Nat} {bx : Bx} {l r1 r : BT} {S : Nat → Prop} (h : Nd M w b id bx l r) (hk : Keeps S w w1) (hs : ∀ k, S k → k ≠ b ∧ k ∉ blocks l) (h1 : IsT w1 r1) (hp : (b :: (blocks l ++ blocks r1)).Nodup) (hf : Fine r1) (hd : dp r1 ≤ N) (hM : M ≤ N) :
    Nd N (w1.setCell ⟨b, 10, none⟩ (.pointer (ptr r1))) b id bx l r1 := by
  obtain ⟨al, d, hB⟩ := h.blk
  have hB1 := hB.keeps hk (fun e => (hs _ e).1 rfl)
  have k2 := (Keeps.refl (fun k => k = b) w1).setCell (p := ⟨b, 10, none⟩) (by simp) (.pointer (ptr r1))
  have hn := List.nodup_cons.1 hp
  exact ⟨⟨al, d, hB1.set_ 10 _⟩, (h.isl.keeps hk (fun x hx e => (hs _ e).2 hx)).keeps k2 (fun x hx e => h.bl (e ▸ hx)), h1.keeps k2 (fun x hx e => hn.1 (List.mem_append.2 (.inr (e ▸ hx)))), hp, h.fl, hf, h.right, Int.le_trans h.dl hM, hd⟩
/-- the node at the left, looked at by itself -/
theorem Nd.left {M : Int} {w : World} {b id : Nat} {bx : Bx} {r : BT} {b' id' : Nat} {bx' al' : Bx} {d' : Int} {ll lr : BT} (h : Nd M w b id bx (node b' id' bx' al' d' ll lr) r) : Nd M w b' id' bx' ll lr := by
  have hd := h.dl
  have hn := (List.nodup_append.1 (List.nodup_cons.1 h.nodup).2).1
  have f := h.fl
  have e := f.2.2.1
  have := fine_dp f.2.2.2.1; have := fine_dp f.2.2.2.2
  simp only [dp_node] at hd
  exact ⟨⟨al', d', h.isl.1⟩, h.isl.2.1, h.isl.2.2, hn, f.2.2.2.1, f.2.2.2.2, f.1, by omega, by omega⟩
theorem Nd.rite {M : Int} {w : World} {b id : Nat} {bx : Bx} {l : BT} {b' id' : Nat} {bx' al' : Bx} {d' : Int} {rl rr : BT} (h : Nd M w b id bx l (node b' id' bx' al' d' rl rr)) : Nd M w b' id' bx' rl rr := by
  have hd := h.dr
  have hn := (List.nodup_append.1 (List.nodup_cons.1 h.nodup).2).2.1
  have f := h.fr
  have e := f.2.2.1
  have := fine_dp f.2.2.2.1; have := fine_dp f.2.2.2.2
  simp only [dp_node] at hd
  exact ⟨⟨al', d', h.isr.1⟩, h.isr.2.1, h.isr.2.2, hn, f.2.2.2.1, f.2.2.2.2, f.1, by omega, by omega⟩
theorem Nd.far {M : Int} {w : World} {b id : Nat} {bx : Bx} {l r : BT} (h : Nd M w b id bx l r) : ∀ k ∈ blocks l, k ≠ b ∧ k ∉ blocks r := fun k hk =>
  ⟨fun e => h.bl (e ▸ hk), fun hx => (List.nodup_append.1 (List.nodup_cons.1 h.nodup).2).2.2 k hk k hx rfl⟩
theorem Nd.farR {M : Int} {w : World} {b id : Nat} {bx : Bx} {l r : BT} (h : Nd M w b id bx l r) : ∀ k ∈ blocks r, k ≠ b ∧ k ∉ blocks l := fun k hk =>
  ⟨fun e => h.br (e ▸ hk), fun hx => (List.nodup_append.1 (List.nodup_cons.1 h.nodup).2).2.2 k hx k hk rfl⟩
theorem Nd.permL {M : Int} {w : World} {b id : Nat} {bx : Bx} {l r l1 : BT} (h : Nd M w b id bx l r) (hp : (blocks l1).Perm (blocks l)) : (b :: (blocks l1 ++ blocks r)).Nodup :=
  (((hp.append_right (blocks r)).cons b).nodup_iff).2 h.nodup
theorem Nd.permR {M : Int} {w : World} {b id : Nat} {bx : Bx} {l r r1 : BT} (h : Nd M w b id bx l r) (hp : (blocks r1).Perm (blocks r)) : (b :: (blocks l ++ blocks r1)).Nodup :=
  (((hp.append_left (blocks l)).cons b).nodup_iff).2 h.nodup
end Tree
end Go.Proofs.Ytndghakagogmcaa
