/-
TrE: even, one way.
TrF: even, with.
TrG: least, without.
-/
import Derived.Test.YtdbpfbokfmpgcaaGreatZazTrBTrCTrD
import Derived.Test.YtdbpfbokfmpgcaaGreatZbaTrEaTrEbTrEcTrEd
set_option linter.unusedVariables false
set_option linter.unusedSimpArgs false
set_option maxHeartbeats 16000000
set_option maxRecDepth 100000
attribute [local go_sem] Go.Oper.semAt_some
namespace Go.Proofs.YtdbpfbokfmpgcaaGreat
theorem Zo {p : Prop} (h : p := by
 have HL2 := Lib.hid hL2
 clear hL2 hT hnd hnl hnr hol hor od
 go_enter Tryz.func158, Tryz.ntmps158
 go_wp2_with (first
  | (go_at_call 158; (with_reducible refine I.out.mono ?_); intro e w4 hm4; obtain ⟨rfl, c4, f4, hS4⟩ := HL2.out e w4 hm4; have HS4 := Lib.hid hS4; clear hm4 hS4)
  | (go_at_call 163; (with_reducible refine HS4.out.mono ?_); rintro e w5 ⟨rfl, hk4, hT4⟩))
 go_ret
 exact ⟨rfl, hk4, hT4⟩) : p := h
open Go.RowKit
namespace Tree
open Mem BT
theorem even_flat (b id : Nat) (bx : Bx) (l r : BT) (w : World) (h : Nd 800 w b id bx l r) (h1 : ¬ dp l - dp r = 2) (h2 : ¬ dp l - dp r = -2) :
 Calls Tryz.prog 163 #[.pointer (some ⟨b, 0, none⟩)] w (Made (mk' b id bx l r) (fun k => k ∈ b :: (blocks l ++ blocks r)) w) := by
 obtain ⟨al, d, hB⟩ := h.blk
 have nl := fine_dp h.fl
 have nr := fine_dp h.fr
 have hdl := h.dl
 have hdr := h.dr
 have hwr : IntKind.i64.wrap (dp l - dp r) = dp l - dp r := IntWalk.i64_in _ Z8
 have HDL := Lib.hid (depth_any l w.drew (h.isl.kd (Keeps.refl _ w).drew))
 have HDR := Lib.hid (depth_any r w.drew (h.isr.kd (Keeps.refl _ w).drew))
 have HS := Lib.hid ((summed_t b id bx l r w.drew ((h.mono Z8).kd (Keeps.refl _ w).drew)).mono fun e w' hm => Made.after (T := fun k => k ∈ b :: (blocks l ++ blocks r)) (w0 := w) hm (Keeps.refl _ w).drew (by rintro k rfl; simp))
 have cB := hB.cell
 unfold ncells at cB
 generalize hpl : ptr l = pl at *
 generalize hpr : ptr r = pr at *
 generalize hdl : dp l = dl at *
 generalize hdr : dp r = dr at *
 clear hB h
 go_enter Tryz.func163, Tryz.ntmps163
 go_wp2
 go_region_held3 (fun W => ∀ i : Nat, W.cell? ⟨b, i, none⟩ = ([.int .u32 (id : Int), .int .i32 bx.x0, .int .i32 bx.y0, .int .i32 bx.x1, .int .i32 bx.y1, .int .i32 al.x0, .int .i32 al.y0, .int .i32 al.x1, .int .i32 al.y1, .pointer pl, .pointer pr, .int .i64 d] : List Value)[i]?) (first | with_reducible assumption | (repeat (first | with_reducible assumption | with_reducible refine all_drew ?_))) (first | (go_at_call 166; (first | refine HDL.out.mono ?_ | refine HDR.out.mono ?_); rintro e w1 ⟨rfl, rfl⟩))
 go_wp2_with (go_at_call 164; (with_reducible refine HS.out.mono ?_); rintro e w4 ⟨rfl, hk4, hT4⟩)
 go_ret
 exact ⟨rfl, hk4, hT4⟩
end Tree
open Go.RowKit
namespace Tree
open Mem BT
theorem even_t (b id : Nat) (bx : Bx) (l r : BT) (w : World) (h : Nd 800 w b id bx l r) :
 Calls Tryz.prog 163 #[.pointer (some ⟨b, 0, none⟩)] w (Made (even b id bx l r) (fun k => k ∈ b :: (blocks l ++ blocks r)) w) := by
 have nl := fine_dp h.fl
 have nr := fine_dp h.fr
 unfold even
 split
 ·rename_i h1
  cases l with
  | nil => simp only [dp_nil] at h1; omega
  | node b' id' bx' al' d' ll lr =>
   dsimp only
   split
   ·rename_i h2; exact even_low2 b id bx b' id' bx' al' d' ll lr r w h h1 h2
   ·rename_i h2; exact even_low1 b id bx b' id' bx' al' d' ll lr r w h h1 h2
 ·split
  ·rename_i h0 h1
   cases r with
   | nil => simp only [dp_nil] at h1; omega
   | node b' id' bx' al' d' rl rr =>
    dsimp only
    split
    ·rename_i h2; exact even_high2 b id bx b' id' bx' al' d' rl rr l w h h1 h2
    ·rename_i h2; exact even_high1 b id bx b' id' bx' al' d' rl rr l w h h1 h2
  ·rename_i h1 h2
   exact even_flat b id bx l r w h h1 h2
theorem Nd.of_node {M : Int} {w : World} {b id : Nat} {bx al : Bx} {d : Int} {l r : BT} (h : IsT w (node b id bx al d l r)) (hf : Fine (node b id bx al d l r)) (hn : (blocks (node b id bx al d l r)).Nodup) (hd : d ≤ M) : Nd M w b id bx l r := by
 have e := hf.2.2.1
 have := fine_dp hf.2.2.2.1; have := fine_dp hf.2.2.2.2
 exact ⟨⟨al, d, h.1⟩, h.2.1, h.2.2, hn, hf.2.2.2.1, hf.2.2.2.2, hf.1, Z8, Z8⟩
theorem with_t (nb id : Nat) (bx : Bx) (hb : bx.right = true) : ∀ (t : BT) (w : World), IsT w t → Ok t → (blocks t).Nodup → nb ∉ blocks t → dp t ≤ 700 → (∃ al d, Blk w nb 201 (ncells id bx al none none d)) →
 Calls Tryz.prog 159 #[.pointer (ptr t), .pointer (some ⟨nb, 0, none⟩)] w (Made (ins nb id bx t) (fun k => k ∈ nb :: blocks t) w)
 | nil, w, _, _, _, _, _, ⟨al, d, hB⟩ => by
  have HS := Lib.hid (summed_t nb id bx nil nil w ⟨⟨al, d, hB⟩, trivial, trivial, by simp [blocks], trivial, trivial, hb, by simp [dp_nil], by simp [dp_nil]⟩)
  clear hB
  rw [show ptr nil = none from rfl]
  go_enter Tryz.func159, Tryz.ntmps159
  go_wp2_with (go_at_call 164; (with_reducible refine HS.out.mono ?_); rintro e w4 ⟨rfl, hk4, hT4⟩)
  go_ret
  exact ⟨rfl, hk4.mono (fun k _ e => by rw [e]; simp), hT4⟩
 | node b id' bx' al' d' l r, w, hT, hO, hn, hnb, hd, ⟨al, d, hB⟩ => by
  have hnd := Nd.of_node hT (ok_fine hO) hn hd
  have hnl := (List.nodup_append.1 (List.nodup_cons.1 hn).2).1
  have hnr := (List.nodup_append.1 (List.nodup_cons.1 hn).2).2.1
  simp only [blocks, List.mem_cons, List.mem_append, not_or] at hnb
  have IL := Lib.hid (with_t nb id bx hb l w.drew (hT.2.1.kd (Keeps.refl _ w).drew) hO.2.2.2.2.2.1 hnl hnb.2.1 hnd.dl ⟨al, d, hB⟩)
  have IR := Lib.hid (with_t nb id bx hb r w.drew (hT.2.2.kd (Keeps.refl _ w).drew) hO.2.2.2.2.2.2 hnr hnb.2.2 hnd.dr ⟨al, d, hB⟩)
  have hal : ∀ _ : Unit, (b :: (nb :: blocks l ++ blocks r)).Perm (nb :: b :: (blocks l ++ blocks r)) := fun _ => List.Perm.swap _ _ _
  have har : (b :: (blocks l ++ (nb :: blocks r))).Perm (nb :: b :: (blocks l ++ blocks r)) := ((List.perm_middle).cons b).trans (List.Perm.swap _ _ _)
  have hno : (nb :: b :: (blocks l ++ blocks r)).Nodup := List.nodup_cons.2 ⟨by simp only [List.mem_cons, List.mem_append, not_or]; exact hnb, hn⟩
  have pl := ((perm_ins nb id bx l).append_right (blocks r)).cons b |>.trans (hal ())
  have pr := ((perm_ins nb id bx r).append_left (blocks l)).cons b |>.trans har
  have ol := ins_ok nb id bx hb hO.2.2.2.2.2.1
  have or_ := ins_ok nb id bx hb hO.2.2.2.2.2.2
  have hdl := hnd.dl
  have hdr := hnd.dr
  have hL2 : ∀ e w1, Made (ins nb id bx l) (fun k => k ∈ nb :: blocks l) w.drew e w1 → e = .returned (.pointer (ptr (ins nb id bx l))) ∧ w1.cell? ⟨b, 9, none⟩ = some (.pointer (ptr l)) ∧ (∀ i, w1.frozen? ⟨b, i, none⟩ = false) ∧ Calls Tryz.prog 163 #[.pointer (some ⟨b, 0, none⟩)] (w1.setCell ⟨b, 9, none⟩ (.pointer (ptr (ins nb id bx l)))) (Made (even b id' bx' (ins nb id bx l) r) (fun k => k ∈ nb :: blocks (node b id' bx' al' d' l r)) w) := by
   rintro e w1 ⟨rfl, hk, hT1⟩
   replace hk := (Keeps.refl _ w).drew.trans hk
   have hf : ∀ k ∈ nb :: blocks l, k ≠ b ∧ k ∉ blocks r := fun k hx => by
    rcases List.mem_cons.1 hx with rfl | hx
    ·exact ⟨hnb.1, hnb.2.2⟩
    ·exact hnd.far k hx
   have hB1 := hT.1.keeps hk (fun e => (hf _ e).1 rfl)
   have hN := hnd.setL (N := 800) hk hf hT1 (pl.nodup_iff.2 hno) (ok_fine ol.1) Z8 Z8
   refine ⟨rfl, hB1.cell 9, hB1.frozen, (even_t b id' bx' _ r _ hN).mono fun e w' hm => Made.after hm ((hk.mono (fun k _ hx => ?_)).setCell (by simp [blocks]) _) (fun k hx => pl.mem_iff.1 hx)⟩
   rcases List.mem_cons.1 hx with rfl | hx
   ·exact List.mem_cons_self ..
   ·simp only [blocks, List.mem_cons, List.mem_append]; exact .inr (.inr (.inl hx))
  have hR2 : ∀ e w1, Made (ins nb id bx r) (fun k => k ∈ nb :: blocks r) w.drew e w1 → e = .returned (.pointer (ptr (ins nb id bx r))) ∧ w1.cell? ⟨b, 10, none⟩ = some (.pointer (ptr r)) ∧ (∀ i, w1.frozen? ⟨b, i, none⟩ = false) ∧ Calls Tryz.prog 163 #[.pointer (some ⟨b, 0, none⟩)] (w1.setCell ⟨b, 10, none⟩ (.pointer (ptr (ins nb id bx r)))) (Made (even b id' bx' l (ins nb id bx r)) (fun k => k ∈ nb :: blocks (node b id' bx' al' d' l r)) w) := by
   rintro e w1 ⟨rfl, hk, hT1⟩
   replace hk := (Keeps.refl _ w).drew.trans hk
   have hf : ∀ k ∈ nb :: blocks r, k ≠ b ∧ k ∉ blocks l := fun k hx => by
    rcases List.mem_cons.1 hx with rfl | hx
    ·exact ⟨hnb.1, hnb.2.1⟩
    ·exact hnd.farR k hx
   have hB1 := hT.1.keeps hk (fun e => (hf _ e).1 rfl)
   have hN := hnd.setR (N := 800) hk hf hT1 (pr.nodup_iff.2 hno) (ok_fine or_.1) Z8 Z8
   refine ⟨rfl, hB1.cell 10, hB1.frozen, (even_t b id' bx' l _ _ hN).mono fun e w' hm => Made.after hm ((hk.mono (fun k _ hx => ?_)).setCell (by simp [blocks]) _) (fun k hx => pr.mem_iff.1 hx)⟩
   rcases List.mem_cons.1 hx with rfl | hx
   ·exact List.mem_cons_self ..
   ·simp only [blocks, List.mem_cons, List.mem_append]; exact .inr (.inr (.inr hx))
  have cB := hB.cell 0
  have cT := hT.1.cell
  unfold ncells at cB cT
  simp only [List.getElem?_cons_zero] at cB
  have HL2 := Lib.hid hL2
  have HR2 := Lib.hid hR2
  clear hL2 hR2 hB hnd hnl hnr hT hal har hno pl pr ol or_ hdl hdr
  rw [show ptr (node b id' bx' al' d' l r) = some ⟨b, 0, none⟩ from rfl]
  by_cases hc : id < id'
  ·rw [show ins nb id bx (node b id' bx' al' d' l r) = even b id' bx' (ins nb id bx l) r by simp only [ins, if_pos hc]]
   go_enter Tryz.func159, Tryz.ntmps159
   go_wp2
   go_region
   all_goals
    go_wp2_with (first
     | (go_at_call 159; (with_reducible refine IL.out.mono ?_); intro e w4 hm4; obtain ⟨rfl, c4, f4, hS4⟩ := HL2.out e w4 hm4; have HS4 := Lib.hid hS4; clear hm4 hS4)
     | (go_at_call 163; (with_reducible refine HS4.out.mono ?_); rintro e w5 ⟨rfl, hk4, hT4⟩))
    go_ret
    exact ⟨rfl, hk4, hT4⟩
  ·rw [show ins nb id bx (node b id' bx' al' d' l r) = even b id' bx' l (ins nb id bx r) by simp only [ins, if_neg hc]]
   go_enter Tryz.func159, Tryz.ntmps159
   go_wp2
   go_region
   all_goals
    go_wp2_with (first
     | (go_at_call 159; (with_reducible refine IR.out.mono ?_); intro e w4 hm4; obtain ⟨rfl, c4, f4, hS4⟩ := HR2.out e w4 hm4; have HS4 := Lib.hid hS4; clear hm4 hS4)
     | (go_at_call 163; (with_reducible refine HS4.out.mono ?_); rintro e w5 ⟨rfl, hk4, hT4⟩))
    go_ret
    exact ⟨rfl, hk4, hT4⟩
end Tree
open Go.RowKit
namespace Tree
open Mem BT
def Least (b id : Nat) (bx : Bx) (l r : BT) (w : World) (e : Ending) (w' : World) : Prop :=
 e = .returned (.tuple #[.pointer (some ⟨(least b id bx l r).1.1, 0, none⟩), .pointer (ptr (least b id bx l r).2)]) ∧ Keeps (fun k => k ∈ b :: (blocks l ++ blocks r)) w w' ∧ IsT w' (least b id bx l r).2 ∧
 ∃ al pl pr d, Blk w' (least b id bx l r).1.1 201 (ncells (least b id bx l r).1.2.1 (least b id bx l r).1.2.2 al pl pr d)
theorem least_t : ∀ (l : BT) (b id : Nat) (bx al : Bx) (d : Int) (r : BT) (w : World), IsT w (node b id bx al d l r) → Ok (node b id bx al d l r) → (blocks (node b id bx al d l r)).Nodup → d ≤ 700 →
 Calls Tryz.prog 162 #[.pointer (some ⟨b, 0, none⟩)] w (Least b id bx l r w)
 | nil, b, id, bx, al, d, r, w, hT, hO, hn, hd => by
  have cB := hT.1.cell
  unfold ncells at cB
  rw [show ptr nil = none from rfl] at cB
  have HT := Lib.hid hT; clear hT
  go_enter Tryz.func162, Tryz.ntmps162
  go_wp2
  go_region
  all_goals
   go_wp2
   go_ret2
   exact ⟨rfl, (Keeps.refl _ w).drew, HT.out.2.2.kd (Keeps.refl _ w).drew, _, _, _, _, HT.out.1⟩
 | node b' id' bx' al' d' ll lr, b, id, bx, al, d, r, w, hT, hO, hn, hd => by
  have hnd := Nd.of_node hT (ok_fine hO) hn hd
  have hnl := (List.nodup_append.1 (List.nodup_cons.1 hn).2).1
  have hol := hO.2.2.2.2.2.1
  have I := Lib.hid (least_t ll b' id' bx' al' d' lr w hT.2.1 hol hnl hnd.dl)
  have hlo := least_ok b' id' bx' hol.1 ll hol.2.2.2.2.2.1 hol.2.2.2.2.2.2 hol.2.2.2.1 hol.2.2.2.2.1
  have hdl := hnd.dl
  have hdl' := hol.2.2.1
  simp only [dp_node] at hdl
  have hpm : ((least b' id' bx' ll lr).1.1 :: blocks (least b' id' bx' ll lr).2).Perm (blocks (node b' id' bx' al' d' ll lr)) := perm_least b' id' bx' ll lr
  have hpn : ((least b' id' bx' ll lr).1.1 :: (b :: (blocks (least b' id' bx' ll lr).2 ++ blocks r))).Nodup := by
   refine ((((hpm.append_right (blocks r)).cons b).nodup_iff).2 hn |> fun h => ?_)
   exact (List.Perm.swap _ _ _).nodup_iff.1 h
  have hsub : ∀ k ∈ b :: (blocks (least b' id' bx' ll lr).2 ++ blocks r), k ∈ b :: (blocks (node b' id' bx' al' d' ll lr) ++ blocks r) := fun k hk => by
   rcases List.mem_cons.1 hk with rfl | hk
   ·exact List.mem_cons_self ..
   ·rcases List.mem_append.1 hk with hk | hk
    ·exact List.mem_cons_of_mem _ (List.mem_append.2 (.inl (hpm.mem_iff.1 (List.mem_cons_of_mem _ hk))))
    ·exact List.mem_cons_of_mem _ (List.mem_append.2 (.inr hk))
  have hL2 : ∀ e w1, Least b' id' bx' ll lr w e w1 → e = .returned (.tuple #[.pointer (some ⟨(least b' id' bx' ll lr).1.1, 0, none⟩), .pointer (ptr (least b' id' bx' ll lr).2)]) ∧ w1.cell? ⟨b, 9, none⟩ = some (.pointer (some ⟨b', 0, none⟩)) ∧ (∀ i, w1.frozen? ⟨b, i, none⟩ = false) ∧
   Calls Tryz.prog 163 #[.pointer (some ⟨b, 0, none⟩)] (w1.setCell ⟨b, 9, none⟩ (.pointer (ptr (least b' id' bx' ll lr).2))) (fun e w' => e = .returned (.pointer (ptr (even b id bx (least b' id' bx' ll lr).2 r))) ∧ Least b id bx (node b' id' bx' al' d' ll lr) r w (.returned (.tuple #[.pointer (some ⟨(least b' id' bx' ll lr).1.1, 0, none⟩), .pointer (ptr (even b id bx (least b' id' bx' ll lr).2 r))])) w') := by
   rintro e w1 ⟨rfl, hk, hT1, al1, pl1, pr1, d1, hB1⟩
   have hB := hT.1.keeps hk (fun e => (hnd.far _ e).1 rfl)
   have hN := hnd.setL (N := 800) hk hnd.far hT1 (List.nodup_cons.1 hpn).2 (ok_fine hlo.1) Z8 Z8
   refine ⟨rfl, hB.cell 9, hB.frozen, (even_t b id bx _ r _ hN).mono fun e w' hm => ⟨hm.1, ?_⟩⟩
   have hkk := ((hk.mono (T := fun k => k ∈ b :: (blocks (node b' id' bx' al' d' ll lr) ++ blocks r)) (fun k _ hx => List.mem_cons_of_mem _ (List.mem_append.2 (.inl hx)))).setCell (p := ⟨b, 9, none⟩) ZA7 (.pointer (ptr (least b' id' bx' ll lr).2))).trans (hm.2.1.mono (fun k _ hx => hsub k hx))
   have hne := (List.nodup_cons.1 hpn).1
   exact ⟨rfl, hkk, hm.2.2, al1, pl1, pr1, d1, (hB1.far (p := ⟨b, 9, none⟩) (fun e => hne (by rw [e]; exact List.mem_cons_self ..)) _).keeps hm.2.1 hne⟩
  have HL2 := Lib.hid hL2
  have cB := hT.1.cell
  unfold ncells at cB
  rw [show ptr (node b' id' bx' al' d' ll lr) = some ⟨b', 0, none⟩ from rfl] at cB
  clear hL2 hT hnd hlo hpm hpn hsub
  go_enter Tryz.func162, Tryz.ntmps162
  go_wp2_with (first
   | (go_at_call 162; (with_reducible refine I.out.mono ?_); intro e w4 hm4; obtain ⟨rfl, c4, f4, hS4⟩ := HL2.out e w4 hm4; have HS4 := Lib.hid hS4; clear hm4 hS4)
   | (go_at_call 163; (with_reducible refine HS4.out.mono ?_); rintro e w5 ⟨rfl, hk4⟩))
  go_ret2
  exact hk4
def Has (id : Nat) : BT → Prop
 | nil => False
 | node _ id' _ _ _ l r => if id < id' then Has id l else if id' < id then Has id r else True
theorem del_join (id b id' : Nat) (bx' al' : Bx) (d' : Int) (l : BT) (b2 id2 : Nat) (bx2 al2 : Bx) (d2 : Int) (rl rr : BT) (h1 : ¬ id < id') (h2 : ¬ id' < id) (hl : l ≠ nil) : del id (node b id' bx' al' d' l (node b2 id2 bx2 al2 d2 rl rr)) = even (least b2 id2 bx2 rl rr).1.1 (least b2 id2 bx2 rl rr).1.2.1 (least b2 id2 bx2 rl rr).1.2.2 l (least b2 id2 bx2 rl rr).2 := by
 cases l with
 | nil => exact (hl rfl).elim
 | node => simp only [del, if_neg h1, if_neg h2]
theorem del_nl (id b id' : Nat) (bx' al' : Bx) (d' : Int) (r : BT) (h1 : ¬ id < id') (h2 : ¬ id' < id) : del id (node b id' bx' al' d' nil r) = r := by
 simp only [del, if_neg h1, if_neg h2]
theorem del_nr (id b id' : Nat) (bx' al' : Bx) (d' : Int) (l : BT) (h1 : ¬ id < id') (h2 : ¬ id' < id) : del id (node b id' bx' al' d' l nil) = l := by
 cases l <;> simp only [del, if_neg h1, if_neg h2]
theorem without_t (id : Nat) : ∀ (t : BT) (w : World), IsT w t → Ok t → (blocks t).Nodup → Has id t → dp t ≤ 700 →
 Calls Tryz.prog 158 #[.pointer (ptr t), .int .u32 (id : Int)] w (Made (del id t) (fun k => k ∈ blocks t) w)
 | nil, w, _, _, _, h, _ => h.elim
 | node b id' bx' al' d' l r, w, hT, hO, hn, hh, hd => by
  have hnd := Nd.of_node hT (ok_fine hO) hn hd
  have hnl := (List.nodup_append.1 (List.nodup_cons.1 hn).2).1
  have hnr := (List.nodup_append.1 (List.nodup_cons.1 hn).2).2.1
  have hol := hO.2.2.2.2.2.1
  have hor := hO.2.2.2.2.2.2
  have cT := hT.1.cell
  unfold ncells at cT
  have fT := hT.1.frozen
  have hdl := hnd.dl
  have hdr := hnd.dr
  rw [show ptr (node b id' bx' al' d' l r) = some ⟨b, 0, none⟩ from rfl]
  by_cases h1 : id < id'
  ·rw [show del id (node b id' bx' al' d' l r) = even b id' bx' (del id l) r by simp only [del, if_pos h1]]
   simp only [Has, if_pos h1] at hh
   have I := Lib.hid (without_t id l w hT.2.1 hol hnl hh hnd.dl)
   have od := del_ok id hol
   have hL2 : ∀ e w1, Made (del id l) (fun k => k ∈ blocks l) w e w1 → e = .returned (.pointer (ptr (del id l))) ∧ w1.cell? ⟨b, 9, none⟩ = some (.pointer (ptr l)) ∧ (∀ i, w1.frozen? ⟨b, i, none⟩ = false) ∧ Calls Tryz.prog 163 #[.pointer (some ⟨b, 0, none⟩)] (w1.setCell ⟨b, 9, none⟩ (.pointer (ptr (del id l)))) (Made (even b id' bx' (del id l) r) (fun k => k ∈ blocks (node b id' bx' al' d' l r)) w) := by
    rintro e w1 ⟨rfl, hk, hT1⟩
    have hB1 := hT.1.keeps hk (fun e => (hnd.far _ e).1 rfl)
    have hsub : ∀ k ∈ b :: (blocks (del id l) ++ blocks r), k ∈ blocks (node b id' bx' al' d' l r) := fun k hk => by
     simp only [blocks, List.mem_cons, List.mem_append] at hk ⊢
     rcases hk with hk | hk | hk
     ·exact .inl hk
     ·exact .inr (.inl (del_blocks id l k hk))
     ·exact .inr (.inr hk)
    have hno : (b :: (blocks (del id l) ++ blocks r)).Nodup := by
     refine List.nodup_cons.2 ⟨?_, List.nodup_append.2 ⟨del_nodup id l hnl, hnr, fun x hx y hy e => ?_⟩⟩
     ·simp only [List.mem_append, not_or]; exact ⟨fun hx => hnd.bl (del_blocks id l _ hx), hnd.br⟩
     ·exact (hnd.far x (del_blocks id l _ hx)).2 (e ▸ hy)
    have hN := hnd.setL (N := 800) hk hnd.far hT1 hno (ok_fine od.1) Z8 Z8
    exact ⟨rfl, hB1.cell 9, hB1.frozen, (even_t b id' bx' _ r _ hN).mono fun e w' hm => Made.after hm ((hk.mono (fun k _ hx => by simp only [blocks, List.mem_cons, List.mem_append]; exact .inr (.inl hx))).setCell (by simp [blocks]) _) (fun k hx => hsub k hx)⟩
   exact Zo
  ·by_cases h2 : id' < id
   ·rw [show del id (node b id' bx' al' d' l r) = even b id' bx' l (del id r) by simp only [del, if_neg h1, if_pos h2]]
    simp only [Has, if_neg h1, if_pos h2] at hh
    have I := Lib.hid (without_t id r w hT.2.2 hor hnr hh hnd.dr)
    have od := del_ok id hor
    have hL2 : ∀ e w1, Made (del id r) (fun k => k ∈ blocks r) w e w1 → e = .returned (.pointer (ptr (del id r))) ∧ w1.cell? ⟨b, 10, none⟩ = some (.pointer (ptr r)) ∧ (∀ i, w1.frozen? ⟨b, i, none⟩ = false) ∧ Calls Tryz.prog 163 #[.pointer (some ⟨b, 0, none⟩)] (w1.setCell ⟨b, 10, none⟩ (.pointer (ptr (del id r)))) (Made (even b id' bx' l (del id r)) (fun k => k ∈ blocks (node b id' bx' al' d' l r)) w) := by
     rintro e w1 ⟨rfl, hk, hT1⟩
     have hB1 := hT.1.keeps hk (fun e => (hnd.farR _ e).1 rfl)
     have hsub : ∀ k ∈ b :: (blocks l ++ blocks (del id r)), k ∈ blocks (node b id' bx' al' d' l r) := fun k hk => by
      simp only [blocks, List.mem_cons, List.mem_append] at hk ⊢
      rcases hk with hk | hk | hk
      ·exact .inl hk
      ·exact .inr (.inl hk)
      ·exact .inr (.inr (del_blocks id r k hk))
     have hno : (b :: (blocks l ++ blocks (del id r))).Nodup := by
      refine List.nodup_cons.2 ⟨?_, List.nodup_append.2 ⟨hnl, del_nodup id r hnr, fun x hx y hy e => ?_⟩⟩
      ·simp only [List.mem_append, not_or]; exact ⟨hnd.bl, fun hx => hnd.br (del_blocks id r _ hx)⟩
      ·exact (hnd.far x hx).2 (e ▸ del_blocks id r _ hy)
     have hN := hnd.setR (N := 800) hk hnd.farR hT1 hno (ok_fine od.1) Z8 Z8
     exact ⟨rfl, hB1.cell 10, hB1.frozen, (even_t b id' bx' l _ _ hN).mono fun e w' hm => Made.after hm ((hk.mono (fun k _ hx => by simp only [blocks, List.mem_cons, List.mem_append]; exact .inr (.inr hx))).setCell (by simp [blocks]) _) (fun k hx => hsub k hx)⟩
    exact Zo
   ·obtain rfl : id = id' := by omega
    clear h1 h2
    have h1 : ¬ id < id := by omega
    cases l with
    | nil =>
     rw [del_nl id b id bx' al' d' r h1 h1]
     rw [show ptr nil = none from rfl] at cT
     have HT := Lib.hid (hT.2.2)
     clear hT hnd
     go_enter Tryz.func158, Tryz.ntmps158
     go_wp2
     go_ret
     exact ⟨rfl, Keeps.refl _ w, HT.out⟩
    | node b1 id1 bx1 al1 d1 ll lr =>
     cases r with
     | nil =>
      rw [del_nr id b id bx' al' d' _ h1 h1]
      rw [show ptr nil = none from rfl, show ptr (node b1 id1 bx1 al1 d1 ll lr) = some ⟨b1, 0, none⟩ from rfl] at cT
      have HT := Lib.hid (hT.2.1)
      clear hT hnd
      go_enter Tryz.func158, Tryz.ntmps158
      go_wp2
      go_ret
      exact ⟨rfl, Keeps.refl _ w, HT.out⟩
     | node b2 id2 bx2 al2 d2 rl rr =>
      rw [del_join id b id bx' al' d' _ b2 id2 bx2 al2 d2 rl rr h1 h1 ZA7]
      rw [show ptr (node b2 id2 bx2 al2 d2 rl rr) = some ⟨b2, 0, none⟩ from rfl, show ptr (node b1 id1 bx1 al1 d1 ll lr) = some ⟨b1, 0, none⟩ from rfl] at cT
      have I := Lib.hid (least_t rl b2 id2 bx2 al2 d2 rr w hT.2.2 hor hnr hnd.dr)
      have hlo := least_ok b2 id2 bx2 hor.1 rl hor.2.2.2.2.2.1 hor.2.2.2.2.2.2 hor.2.2.2.1 hor.2.2.2.2.1
      have hdr' := hor.2.2.1
      simp only [dp_node] at hdr
      have hpm : ((least b2 id2 bx2 rl rr).1.1 :: blocks (least b2 id2 bx2 rl rr).2).Perm (blocks (node b2 id2 bx2 al2 d2 rl rr)) := perm_least b2 id2 bx2 rl rr
      have hL2 : ∀ e w1, Least b2 id2 bx2 rl rr w e w1 → ∃ v9 v10, e = .returned (.tuple #[.pointer (some ⟨(least b2 id2 bx2 rl rr).1.1, 0, none⟩), .pointer (ptr (least b2 id2 bx2 rl rr).2)]) ∧ (∀ i : Nat, w1.cell? ⟨b, i, none⟩ = (ncells id bx' al' (some ⟨b1, 0, none⟩) (some ⟨b2, 0, none⟩) d')[i]?) ∧ (∀ i, w1.frozen? ⟨(least b2 id2 bx2 rl rr).1.1, i, none⟩ = false) ∧ w1.cell? ⟨(least b2 id2 bx2 rl rr).1.1, 9, none⟩ = some v9 ∧ w1.cell? ⟨(least b2 id2 bx2 rl rr).1.1, 10, none⟩ = some v10 ∧
       Calls Tryz.prog 163 #[.pointer (some ⟨(least b2 id2 bx2 rl rr).1.1, 0, none⟩)] ((w1.setCell ⟨(least b2 id2 bx2 rl rr).1.1, 9, none⟩ (.pointer (some ⟨b1, 0, none⟩))).setCell ⟨(least b2 id2 bx2 rl rr).1.1, 10, none⟩ (.pointer (ptr (least b2 id2 bx2 rl rr).2)))
        (Made (even (least b2 id2 bx2 rl rr).1.1 (least b2 id2 bx2 rl rr).1.2.1 (least b2 id2 bx2 rl rr).1.2.2 (node b1 id1 bx1 al1 d1 ll lr) (least b2 id2 bx2 rl rr).2) (fun k => k ∈ blocks (node b id bx' al' d' (node b1 id1 bx1 al1 d1 ll lr) (node b2 id2 bx2 al2 d2 rl rr))) w) := by
       rintro e w1 ⟨rfl, hk, hT1, al3, pl3, pr3, d3, hB1⟩
       generalize (least b2 id2 bx2 rl rr).1.1 = lb at *
       generalize (least b2 id2 bx2 rl rr).1.2.1 = lid at *
       generalize (least b2 id2 bx2 rl rr).1.2.2 = lbx at *
       generalize (least b2 id2 bx2 rl rr).2 = rest at *
       replace hk : Keeps (fun k => k ∈ blocks (node b2 id2 bx2 al2 d2 rl rr)) w w1 := hk
       have hB := hT.1.keeps hk (fun e => (hnd.farR _ e).1 rfl)
       have hL1 := hT.2.1.keeps hk (fun x hx e => (hnd.far _ hx).2 e)
       have hpn : (lb :: (blocks (node b1 id1 bx1 al1 d1 ll lr) ++ blocks rest)).Nodup := by
        have h3 := (((hpm.append_left (blocks (node b1 id1 bx1 al1 d1 ll lr))).cons b).nodup_iff).2 hn
        exact List.perm_middle.nodup_iff.1 (List.nodup_cons.1 h3).2
       have hne := List.nodup_cons.1 hpn
       have k2 := ((Keeps.refl (fun k => k = lb) w1).setCell (p := ⟨lb, 9, none⟩) ZA7 (.pointer (some ⟨b1, 0, none⟩))).setCell (p := ⟨lb, 10, none⟩) ZA7 (.pointer (ptr rest))
       have hN : Nd 800 ((w1.setCell ⟨lb, 9, none⟩ (.pointer (some ⟨b1, 0, none⟩))).setCell ⟨lb, 10, none⟩ (.pointer (ptr rest))) lb lid lbx (node b1 id1 bx1 al1 d1 ll lr) rest :=
        ⟨⟨al3, d3, (hB1.set_ 9 _).set_ 10 _⟩, hL1.keeps k2 (fun x hx e => hne.1 (List.mem_append.2 (.inl (e ▸ hx)))), hT1.keeps k2 (fun x hx e => hne.1 (List.mem_append.2 (.inr (e ▸ hx)))), hpn, ok_fine hol, ok_fine hlo.1, hlo.2.1, Z8, Z8⟩
       have hsub : ∀ k ∈ lb :: (blocks (node b1 id1 bx1 al1 d1 ll lr) ++ blocks rest), k ∈ blocks (node b id bx' al' d' (node b1 id1 bx1 al1 d1 ll lr) (node b2 id2 bx2 al2 d2 rl rr)) := fun k hx => by
        refine List.mem_cons_of_mem _ (List.mem_append.2 ?_)
        rcases List.mem_cons.1 hx with rfl | hx
        ·exact .inr (hpm.mem_iff.1 (List.mem_cons_self ..))
        ·rcases List.mem_append.1 hx with hx | hx
         ·exact .inl hx
         ·exact .inr (hpm.mem_iff.1 (List.mem_cons_of_mem _ hx))
       have hlb := hsub lb (List.mem_cons_self ..)
       refine ⟨_, _, rfl, hB.cell, hB1.frozen, hB1.cell 9, hB1.cell 10, (even_t lb lid lbx _ rest _ hN).mono fun e w' hm => Made.after hm ((((hk.mono (fun k _ hx => ?_)).setCell (fun _ => hlb) _).setCell (fun _ => hlb) _)) (fun k hx => hsub k hx)⟩
       exact List.mem_cons_of_mem _ (List.mem_append.2 (.inr hx))
      have HL2 := Lib.hid hL2
      clear hL2 hT hnd hnl hnr hol hor hlo hpm
      go_enter Tryz.func158, Tryz.ntmps158
      go_wp2_with (first
       | (go_at_call 162; (with_reducible refine I.out.mono ?_); intro e w4 hm4; obtain ⟨v9, v10, rfl, c4, f4, c9, c10, hS4⟩ := HL2.out e w4 hm4; unfold ncells at c4; have HS4 := Lib.hid hS4; clear hm4 hS4)
       | (go_at_call 163; (with_reducible refine HS4.out.mono ?_); rintro e w5 ⟨rfl, hk4, hT4⟩))
      go_ret
      exact ⟨rfl, hk4, hT4⟩
end Tree
end Go.Proofs.YtdbpfbokfmpgcaaGreat
