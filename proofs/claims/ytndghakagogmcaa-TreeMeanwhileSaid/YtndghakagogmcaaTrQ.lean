/-
  TrQ: Del, Box, Len, Depth, New.
-/
import Derived.Test.YtndghakagogmcaaTrP
namespace Go.Proofs.Ytndghakagogmcaa
open Go.RowKit
set_option linter.unusedVariables false
set_option linter.unusedSimpArgs false
attribute [local go_sem] Oper.semAt_some
namespace Tree
open Mem BT
theorem has_of {id : Nat} : ∀ {t : BT}, Rising (inord t) → (∃ p ∈ inord t, p.1 = id) → Has id t
  | nil, _, ⟨p, hp, _⟩ => by simp [inord] at hp
  | node b id' bx al d l r, hr, ⟨p, hp, he⟩ => by
    obtain ⟨h1, h2, h3, h4⟩ := Rising.app.1 hr
    simp only [inord, List.mem_append, List.mem_cons] at hp
    rw [Has]
    rcases hp with hp | rfl | hp
    · have := h3 p hp
      rw [if_pos (by simp only at this; omega)]
      exact has_of h1 ⟨p, hp, he⟩
    · rw [if_neg (by simp only at he; omega), if_neg (by simp only at he; omega)]; trivial
    · have := h4 p hp
      rw [if_neg (by simp only at this; omega), if_pos (by simp only at this; omega)]
      exact has_of h2 ⟨p, hp, he⟩
set_option maxHeartbeats 4000000 in
set_option maxRecDepth 100000 in
theorem del_t (T : Nat) (S : Nat → Prop) (L : List (Nat × Bx)) (id : Nat) (w : World) (h : TrS w T S L) (hid : id < 4294967296) :
    Calls Try.prog 24 #[.pointer (some ⟨T, 0, none⟩), .int .u32 (id : Int)] w (Did T S (delR L id) w) := by
  have h0 := h
  obtain ⟨r, t, hH, hM, he, hR, hI, hl, hS⟩ := h0
  have k1 := (Keeps.refl (fun _ => False) w).alloc (.cells #[.int .i32 (lookL L id).x0, .int .i32 (lookL L id).y0, .int .i32 (lookL L id).x1, .int .i32 (lookL L id).y1] 47)
  have hM1 := hM.keeps k1 (fun h => h)
  have hT1 := hH.blk.keeps k1 (fun h => h)
  have HTh := Lib.hid (there_yes hH.blk)
  have hlk := hM.look hid
  simp only [Bx.val] at hlk
  have cT := hH.blk.cell
  have K1 := Lib.hid k1
  have H := Lib.hid h
  cases h2 : hasL L id with
  | false =>
    rw [show delR L id = (141, L) by unfold delR; rw [if_neg (by simp [h2])]]
    rw [h2] at hlk
    clear h k1 hM1 hT1 hM hH hR hI hl hS he
    go_enter Try.func24, Try.ntmps24
    go_wp2_with (go_at_call 41; (with_reducible refine HTh.out.mono ?_); rintro e w1 ⟨rfl, rfl⟩)
    go_ret
    exact Did.same H.out K1.out _
  | true =>
    rw [show delR L id = (0, delL id L) by unfold delR; rw [if_pos h2]]
    rw [h2] at hlk
    obtain ⟨w2, hrun, hM2, hk2⟩ := hM1.del hid hR h2 0
    have hT2 := hT1.keeps hk2 (fun e => hM1.ne hT1 e)
    have hrb : ∀ x ∈ blocks t, x ≠ r := fun x hx => by
      obtain ⟨cs, hc⟩ := hH.ist.mem hx
      exact hM.ne hc
    have hTb : T ∉ blocks t := fun hx => by
      obtain ⟨cs, hc⟩ := hH.ist.mem hx
      exact Blk.ne_ hH.blk hc (by decide) rfl
    have K3 : Keeps (fun k => k = r) w w2 := (k1.mono (fun _ _ h => h.elim)).trans hk2
    have hist : IsT w2 t := hH.ist.keeps K3 (fun x hx e => hrb x hx e)
    have hdp : dp t ≤ 700 := by
      have := deepest hH.ok (d := 17) (by rw [he]; omega)
      omega
    have hhas : Has id t := has_of (by rw [he]; exact hR) (by rw [he]; exact hasL_iff.1 h2)
    have HW := Lib.hid (without_t id t w2 hist hH.ok hH.nodup hhas hdp)
    have hfin : ∀ e w6, Made (del id t) (fun k => k ∈ blocks t) w2 e w6 →
        e = .returned (.pointer (ptr (del id t))) ∧ (∀ i : Nat, w6.cell? ⟨T, i, none⟩ = ([.pointer (ptr t), .map (some r)] : List Value)[i]?) ∧ (∀ i, w6.frozen? ⟨T, i, none⟩ = false) ∧ Did T S (0, delL id L) w (.returned (.int .i64 0)) (w6.setCell ⟨T, 0, none⟩ (.pointer (ptr (del id t)))) := by
      rintro e w6 ⟨rfl, hk6, hT6⟩
      have hT6' := hT2.keeps hk6 hTb
      have ks := (Keeps.refl (fun k => k = T) w6).setCell (p := ⟨T, 0, none⟩) (by simp) (.pointer (ptr (del id t)))
      refine ⟨rfl, hT6'.cell, hT6'.frozen, rfl, fun k => k = T ∨ k = r ∨ k ∈ blocks (del id t), ⟨?_, ?_⟩, r, del id t, ⟨hT6'.set_ 0 _, hT6.keeps ks (fun x hx e => hTb (e ▸ del_blocks id t x hx)), (del_ok id hH.ok).1, del_nodup id t hH.nodup⟩, ?_, ?_, delL_rising id hR, ?_, ?_, fun k => Iff.rfl⟩
      · refine Keeps.setCell ?_ (p := ⟨T, 0, none⟩) (fun _ => (hS T).2 (.inl rfl)) _
        exact (K3.mono (T := S) (fun k _ e => (hS k).2 (.inr (.inl e)))).trans (hk6.mono (fun k _ hx => (hS k).2 (.inr (.inr hx))))
      · rintro k (hk | hk | hk)
        · exact .inl ((hS k).2 (.inl hk))
        · exact .inl ((hS k).2 (.inr (.inl hk)))
        · exact .inl ((hS k).2 (.inr (.inr (del_blocks id t k hk))))
      · exact (hM2.keeps hk6 (fun hx => hrb _ hx rfl)).keeps ks (fun e => hM.ne hH.blk e.symm)
      · rw [inord_del id t (by rw [he]; exact hR), he]
      · intro p hp; exact hI p (List.mem_filter.1 hp).1
      · have := delL_length hR h2; show (delL id L).length ≤ 65536; omega
    have HF := Lib.hid hfin
    have cT2 := hT2.cell
    have cT1 := hT1.cell
    clear h k1 hM1 hT1 hM hH hR hI hl hS he hfin hT2 hrb hTb K3 hist hdp hhas hk2 hM2
    go_enter Try.func24, Try.ntmps24
    go_wp2_with (first
      | (go_at_call 41; (with_reducible refine HTh.out.mono ?_); rintro e w1 ⟨rfl, rfl⟩)
      | (go_at_call 50; (with_reducible refine HW.out.mono ?_); intro e w6 hm6; obtain ⟨rfl, c6, f6, hd6⟩ := HF.out e w6 hm6; have HD6 := Lib.hid hd6; clear hm6 hd6))
    go_ret
    exact HD6.out
def boxR2 (L : List (Nat × Bx)) (id : Nat) : Value := .tuple #[(lookL L id).val, .bool (hasL L id)]
set_option maxHeartbeats 4000000 in
set_option maxRecDepth 100000 in
theorem box_t (T : Nat) (S : Nat → Prop) (L : List (Nat × Bx)) (id : Nat) (w : World) (h : TrS w T S L) (hid : id < 4294967296) :
    Calls Try.prog 31 #[.pointer (some ⟨T, 0, none⟩), .int .u32 (id : Int)] w (Gave (boxR2 L id) w) := by
  obtain ⟨r, t, hH, hM, he, hR, hI, hl, hS⟩ := h
  have k1 := (Keeps.refl (fun _ => False) w).alloc (.cells #[.int .i32 0, .int .i32 0, .int .i32 0, .int .i32 0] 47)
  have hM1 := hM.keeps k1 (fun h => h)
  have hT1 := hH.blk.keeps k1 (fun h => h)
  have HTh := Lib.hid (there_yes hT1)
  have hlk := hM1.look hid
  simp only [Bx.val, Bx.zero] at hlk
  have cT := hT1.cell
  unfold boxR2
  generalize hasL L id = hb at *
  generalize lookL L id = bx at *
  clear k1 hM1 hT1 hM hH hR hI hl hS he
  go_enter Try.func31, Try.ntmps31
  go_wp2_with (go_at_call 41; (with_reducible refine HTh.out.mono ?_); rintro e w1 ⟨rfl, rfl⟩)
  exact bodyPost_ret (results_row_tmp rfl _ _ w.heap.size _ _ _ _ rfl ((Blk.new w 47 [.int .i32 bx.x0, .int .i32 bx.y0, .int .i32 bx.x1, .int .i32 bx.y1]).alloc _) Try.underlying47 rfl (by kernel_rfl)) rfl ⟨rfl, ((Keeps.refl _ w).alloc _).alloc _⟩
set_option maxHeartbeats 4000000 in
theorem len_t (T : Nat) (S : Nat → Prop) (L : List (Nat × Bx)) (w : World) (h : TrS w T S L) :
    Calls Try.prog 29 #[.pointer (some ⟨T, 0, none⟩)] w fun e w' => e = .returned (.int .i64 (L.length : Int)) ∧ w = w' := by
  obtain ⟨r, t, hH, hM, he, hR, hI, hl, hS⟩ := h
  have HTh := Lib.hid (there_yes hH.blk)
  have hlen := hM.len
  have cT := hH.blk.cell
  clear hM hH hR hI hl hS he
  go_enter Try.func29, Try.ntmps29
  go_wp2_with (go_at_call 41; (with_reducible refine HTh.out.mono ?_); rintro e w1 ⟨rfl, rfl⟩)
  go_ret
  exact ⟨rfl, rfl⟩
theorem depth_t (T : Nat) (S : Nat → Prop) (L : List (Nat × Bx)) (w : World) (h : TrS w T S L) :
    Calls Try.prog 30 #[.pointer (some ⟨T, 0, none⟩)] w fun e w' => (∃ d : Int, e = .returned (.int .i64 d) ∧ 0 ≤ d ∧ d ≤ 1000 ∧ (d = 0 ↔ L = []) ∧ ∀ n : Nat, L.length < 2 ^ n → d ≤ 2 * n) ∧ w = w' := by
  obtain ⟨r, t, hH, hM, he, hR, hI, hl, hS⟩ := h
  have HTh := Lib.hid (there_yes hH.blk)
  have HD := Lib.hid (depth_any t w hH.ist)
  have cT := hH.blk.cell
  have hd1 := dp_nonneg hH.ok
  have hd2 := dp_zero hH.ok
  have hd3 := fun n h => deepest hH.ok (d := n) h
  have hd4 := deepest hH.ok (d := 17) (by rw [he]; omega)
  rw [he] at hd2 hd3
  clear hM hH hR hI hl hS he
  go_enter Try.func30, Try.ntmps30
  go_wp2_with (first
    | (go_at_call 41; (with_reducible refine HTh.out.mono ?_); rintro e w1 ⟨rfl, rfl⟩)
    | (go_at_call 52; (with_reducible refine HD.out.mono ?_); rintro e w1 ⟨rfl, rfl⟩))
  go_ret
  exact ⟨⟨_, rfl, hd1, by omega, hd2, hd3⟩, rfl⟩
/-- an empty tree is made -/
theorem new_t (w : World) : Calls Try.prog 19 #[] w fun e w' => ∃ T S, e = .returned (.pointer (some ⟨T, 0, none⟩)) ∧ TrS w' T S [] ∧ Keeps (fun _ => False) w w' ∧ ∀ k, S k → w.heap.size ≤ k := by
  have hmm := @run_makeMap Try.prog
  have b1 := (Blk.new w 80 [.pointer none, .map (some (w.heap.size + 1))]).alloc (.map #[] 0)
  have hm : MapL ((w.alloc (.cells #[.pointer none, .map (some (w.heap.size + 1))] 80)).alloc (.map #[] 0)) (w.heap.size + 1) [] := by
    have hown := World.ownsMap_made (w.alloc (.cells #[.pointer none, .map (some (w.heap.size + 1))] 80)) Try.prog 32 boxR
    simp only [World.size_alloc] at hown
    refine ⟨_, hown, rfl, fun id hid => ⟨rfl, fun h => by simp [hasL] at h⟩⟩
  have HB := Lib.hid b1
  have HM := Lib.hid hm
  clear b1 hm
  go_enter Try.func19, Try.ntmps19
  go_wp2
  go_ret
  refine ⟨w.heap.size, fun k => k = w.heap.size ∨ k = w.heap.size + 1 ∨ k ∈ blocks nil, rfl, ⟨w.heap.size + 1, nil, ⟨HB.out, trivial, trivial, List.nodup_nil⟩, HM.out, rfl, List.Pairwise.nil, (by simp), (by simp), fun k => Iff.rfl⟩, ((Keeps.refl _ w).alloc _).alloc _, ?_⟩
  rintro k (h | h | h)
  · omega
  · omega
  · simp [blocks] at h
end Tree
end Go.Proofs.Ytndghakagogmcaa
