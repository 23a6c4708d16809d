/-
TrEa: even, one way.
TrEb: even, one way.
TrEc: even, one way.
TrEd: even, one way.
-/
import Derived.Test.YtdbpfbokfmpgcaaGreatZazTrBTrCTrD
set_option linter.unusedVariables false
set_option linter.unusedSimpArgs false
set_option maxHeartbeats 16000000
set_option maxRecDepth 100000
attribute [local go_sem] Go.Oper.semAt_some
namespace Go.Proofs.YtdbpfbokfmpgcaaGreat
open Go.RowKit
namespace Tree
open Mem BT
theorem even_low1 (b id : Nat) (bx : Bx) (b' id' : Nat) (bx' al' : Bx) (d' : Int) (ll lr : BT) (r : BT) (w : World) (h : Nd 800 w b id bx (node b' id' bx' al' d' ll lr) r) (h1 : dp (node b' id' bx' al' d' ll lr) - dp r = 2) (h2 : ¬ dp ll < dp lr) :
 Calls Tryz.prog 163 #[.pointer (some ⟨b, 0, none⟩)] w (Made (rotL b id bx (node b' id' bx' al' d' ll lr) r) (fun k => k ∈ b :: (blocks (node b' id' bx' al' d' ll lr) ++ blocks r)) w) := by
 obtain ⟨al, d, hB⟩ := h.blk
 have nl := fine_dp h.fl
 have nr := fine_dp h.fr
 have hdl := h.dl
 have hdr := h.dr
 have hwr : IntKind.i64.wrap (dp (node b' id' bx' al' d' ll lr) - dp r) = dp (node b' id' bx' al' d' ll lr) - dp r := IntWalk.i64_in _ Z8
 have HDL := Lib.hid (depth_any (node b' id' bx' al' d' ll lr) w.drew (h.isl.kd (Keeps.refl _ w).drew))
 have HDR := Lib.hid (depth_any r w.drew (h.isr.kd (Keeps.refl _ w).drew))
 have HDA := Lib.hid (depth_any ll w.drew.drew (h.isl.2.1.kd (Keeps.refl _ w).drew.drew))
 have HDB := Lib.hid (depth_any lr w.drew.drew (h.isl.2.2.kd (Keeps.refl _ w).drew.drew))
 have na := fine_dp h.fl.2.2.2.1
 have nb := fine_dp h.fl.2.2.2.2
 have ea := h.fl.2.2.1
 have hC := h.isl.1
 have HS := Lib.hid ((upLow_n b id bx (node b' id' bx' al' d' ll lr) r w.drew.drew ((h.mono Z8).kd (Keeps.refl _ w).drew.drew) ZA7).mono fun e w' hm => Made.after (T := fun k => k ∈ b :: (blocks (node b' id' bx' al' d' ll lr) ++ blocks r)) (w0 := w) hm (Keeps.refl _ w).drew.drew (fun _ h => h))
 have cB := hB.cell
 have cC := hC.cell
 unfold ncells at cB cC
 rw [show ptr (node b' id' bx' al' d' ll lr) = some ⟨b', 0, none⟩ from rfl] at cB
 rw [show ptr (node b' id' bx' al' d' ll lr) = some ⟨b', 0, none⟩ from rfl] at HDL
 rw [show dp (node b' id' bx' al' d' ll lr) = d' from rfl] at *
 generalize hp1 : ptr r = p1 at *
 generalize hp2 : ptr ll = p2 at *
 generalize hp3 : ptr lr = p3 at *
 generalize hq1 : dp r = q1 at *
 generalize hq2 : dp ll = q2 at *
 generalize hq3 : dp lr = q3 at *
 clear hB hC h
 go_enter Tryz.func163, Tryz.ntmps163
 go_wp2
 go_region_held3 (fun W => ∀ i : Nat, W.cell? ⟨b, i, none⟩ = ([.int .u32 (id : Int), .int .i32 bx.x0, .int .i32 bx.y0, .int .i32 bx.x1, .int .i32 bx.y1, .int .i32 al.x0, .int .i32 al.y0, .int .i32 al.x1, .int .i32 al.y1, .pointer (some ⟨b', 0, none⟩), .pointer p1, .int .i64 d] : List Value)[i]?) (first | with_reducible assumption | (repeat (first | with_reducible assumption | with_reducible refine all_drew ?_))) (first | (go_at_call 166; (first | refine HDL.out.mono ?_ | refine HDR.out.mono ?_); rintro e w1 ⟨rfl, rfl⟩))
 go_wp2
 go_region_held3 (fun W => (∀ i : Nat, W.cell? ⟨b, i, none⟩ = ([.int .u32 (id : Int), .int .i32 bx.x0, .int .i32 bx.y0, .int .i32 bx.x1, .int .i32 bx.y1, .int .i32 al.x0, .int .i32 al.y0, .int .i32 al.x1, .int .i32 al.y1, .pointer (some ⟨b', 0, none⟩), .pointer p1, .int .i64 d] : List Value)[i]?) ∧ (∀ i : Nat, W.cell? ⟨b', i, none⟩ = ([.int .u32 (id' : Int), .int .i32 bx'.x0, .int .i32 bx'.y0, .int .i32 bx'.x1, .int .i32 bx'.y1, .int .i32 al'.x0, .int .i32 al'.y0, .int .i32 al'.x1, .int .i32 al'.y1, .pointer p2, .pointer p3, .int .i64 d'] : List Value)[i]?)) (first | with_reducible assumption | (refine ⟨?_, ?_⟩ <;> (repeat (first | with_reducible assumption | with_reducible refine all_drew ?_)))) (first | (go_at_call 166; (first | refine HDA.out.mono ?_ | refine HDB.out.mono ?_); rintro e w1 ⟨rfl, rfl⟩))
 go_wp2_with (go_at_call 168; (with_reducible refine HS.out.mono ?_); rintro e w4 ⟨rfl, hk4, hT4⟩)
 go_ret
 exact ⟨rfl, hk4, hT4⟩
end Tree
open Go.RowKit
namespace Tree
open Mem BT
theorem even_low2 (b id : Nat) (bx : Bx) (b' id' : Nat) (bx' al' : Bx) (d' : Int) (ll lr : BT) (r : BT) (w : World) (h : Nd 800 w b id bx (node b' id' bx' al' d' ll lr) r) (h1 : dp (node b' id' bx' al' d' ll lr) - dp r = 2) (h2 : dp ll < dp lr) :
 Calls Tryz.prog 163 #[.pointer (some ⟨b, 0, none⟩)] w (Made (rotL b id bx (rotH b' id' bx' ll lr) r) (fun k => k ∈ b :: (blocks (node b' id' bx' al' d' ll lr) ++ blocks r)) w) := by
 obtain ⟨al, d, hB⟩ := h.blk
 have nl := fine_dp h.fl
 have nr := fine_dp h.fr
 have hdl := h.dl
 have hdr := h.dr
 have hwr : IntKind.i64.wrap (dp (node b' id' bx' al' d' ll lr) - dp r) = dp (node b' id' bx' al' d' ll lr) - dp r := IntWalk.i64_in _ Z8
 have HDL := Lib.hid (depth_any (node b' id' bx' al' d' ll lr) w.drew (h.isl.kd (Keeps.refl _ w).drew))
 have HDR := Lib.hid (depth_any r w.drew (h.isr.kd (Keeps.refl _ w).drew))
 have HDA := Lib.hid (depth_any ll w.drew.drew (h.isl.2.1.kd (Keeps.refl _ w).drew.drew))
 have HDB := Lib.hid (depth_any lr w.drew.drew (h.isl.2.2.kd (Keeps.refl _ w).drew.drew))
 have na := fine_dp h.fl.2.2.2.1
 have nb := fine_dp h.fl.2.2.2.2
 have ea := h.fl.2.2.1
 have hC := h.isl.1
 have hne : lr ≠ nil := by rintro rfl; simp only [dp_nil] at h2; omega
 have HI := Lib.hid ((upHigh_n b' id' bx' ll lr w.drew.drew ((h.left.mono Z8).kd (Keeps.refl _ w).drew.drew) hne).mono fun e w' hm => Made.after (T := fun k => k ∈ blocks (node b' id' bx' al' d' ll lr)) (w0 := w) hm (Keeps.refl _ w).drew.drew (fun _ h => h))
 have hpm : (blocks (rotH b' id' bx' ll lr)).Perm (blocks (node b' id' bx' al' d' ll lr)) := perm_rotH _ _ _ _ _
 have hd1 : dp (rotH b' id' bx' ll lr) ≤ 900 := by
  have := dp_rotH (b := b') (id := id') (bx := bx') h.fl.2.2.2.1 h.fl.2.2.2.2
  simp only [dp_node] at hdl hdr
  omega
 have hS2 : ∀ e w1, Made (rotH b' id' bx' ll lr) (fun k => k ∈ blocks (node b' id' bx' al' d' ll lr)) w e w1 → e = .returned (.pointer (ptr (rotH b' id' bx' ll lr))) ∧ w1.cell? ⟨b, 9, none⟩ = some (.pointer (some ⟨b', 0, none⟩)) ∧ (∀ i, w1.frozen? ⟨b, i, none⟩ = false) ∧ Calls Tryz.prog 168 #[.pointer (some ⟨b, 0, none⟩)] (w1.setCell ⟨b, 9, none⟩ (.pointer (ptr (rotH b' id' bx' ll lr)))) (Made (rotL b id bx (rotH b' id' bx' ll lr) r) (fun k => k ∈ b :: (blocks (node b' id' bx' al' d' ll lr) ++ blocks r)) w) := by
  rintro e w1 ⟨rfl, hk, hT⟩
  have hB1 := hB.keeps hk h.bl
  have hN := h.setL (N := 900) hk h.far hT (h.permL hpm) (rotH_fine h.fl.1 h.fl.2.2.2.1 h.fl.2.2.2.2) hd1 Z8
  refine ⟨rfl, hB1.cell 9, hB1.frozen, (upLow_n b id bx (rotH b' id' bx' ll lr) r _ hN (rotH_ne _ _ _ _ _)).mono fun e w' hm => Made.after hm ((hk.mono (fun k _ hx => ?_)).setCell ZA7 _) (fun k hx => ?_)⟩
  ·exact List.mem_cons_of_mem _ (List.mem_append.2 (.inl hx))
  ·exact ((hpm.append_right (blocks r)).cons b).mem_iff.1 hx
 have HS2 := Lib.hid hS2; clear hS2
 clear hpm hd1 hne
 have cB := hB.cell
 have cC := hC.cell
 unfold ncells at cB cC
 rw [show ptr (node b' id' bx' al' d' ll lr) = some ⟨b', 0, none⟩ from rfl] at cB
 rw [show ptr (node b' id' bx' al' d' ll lr) = some ⟨b', 0, none⟩ from rfl] at HDL
 rw [show dp (node b' id' bx' al' d' ll lr) = d' from rfl] at *
 generalize hp1 : ptr r = p1 at *
 generalize hp2 : ptr ll = p2 at *
 generalize hp3 : ptr lr = p3 at *
 generalize hq1 : dp r = q1 at *
 generalize hq2 : dp ll = q2 at *
 generalize hq3 : dp lr = q3 at *
 clear hB hC h
 go_enter Tryz.func163, Tryz.ntmps163
 go_wp2
 go_region_held3 (fun W => ∀ i : Nat, W.cell? ⟨b, i, none⟩ = ([.int .u32 (id : Int), .int .i32 bx.x0, .int .i32 bx.y0, .int .i32 bx.x1, .int .i32 bx.y1, .int .i32 al.x0, .int .i32 al.y0, .int .i32 al.x1, .int .i32 al.y1, .pointer (some ⟨b', 0, none⟩), .pointer p1, .int .i64 d] : List Value)[i]?) (first | with_reducible assumption | (repeat (first | with_reducible assumption | with_reducible refine all_drew ?_))) (first | (go_at_call 166; (first | refine HDL.out.mono ?_ | refine HDR.out.mono ?_); rintro e w1 ⟨rfl, rfl⟩))
 go_wp2
 go_region_held3 (fun W => (∀ i : Nat, W.cell? ⟨b, i, none⟩ = ([.int .u32 (id : Int), .int .i32 bx.x0, .int .i32 bx.y0, .int .i32 bx.x1, .int .i32 bx.y1, .int .i32 al.x0, .int .i32 al.y0, .int .i32 al.x1, .int .i32 al.y1, .pointer (some ⟨b', 0, none⟩), .pointer p1, .int .i64 d] : List Value)[i]?) ∧ (∀ i : Nat, W.cell? ⟨b', i, none⟩ = ([.int .u32 (id' : Int), .int .i32 bx'.x0, .int .i32 bx'.y0, .int .i32 bx'.x1, .int .i32 bx'.y1, .int .i32 al'.x0, .int .i32 al'.y0, .int .i32 al'.x1, .int .i32 al'.y1, .pointer p2, .pointer p3, .int .i64 d'] : List Value)[i]?)) (first | with_reducible assumption | (refine ⟨?_, ?_⟩ <;> (repeat (first | with_reducible assumption | with_reducible refine all_drew ?_)))) (first | (go_at_call 166; (first | refine HDA.out.mono ?_ | refine HDB.out.mono ?_); rintro e w1 ⟨rfl, rfl⟩))
 go_wp2_with (first
  | (go_at_call 167; (with_reducible refine HI.out.mono ?_); intro e w4 hm4; obtain ⟨rfl, c4, f4, hS4⟩ := HS2.out e w4 hm4; have HS4 := Lib.hid hS4; clear hm4 hS4)
  | (go_at_call 168; (with_reducible refine HS4.out.mono ?_); rintro e w5 ⟨rfl, hk4, hT4⟩))
 go_ret
 exact ⟨rfl, hk4, hT4⟩
end Tree
open Go.RowKit
namespace Tree
open Mem BT
theorem even_high1 (b id : Nat) (bx : Bx) (b' id' : Nat) (bx' al' : Bx) (d' : Int) (rl rr : BT) (l : BT) (w : World) (h : Nd 800 w b id bx l (node b' id' bx' al' d' rl rr)) (h1 : dp l - dp (node b' id' bx' al' d' rl rr) = -2) (h2 : ¬ dp rr < dp rl) :
 Calls Tryz.prog 163 #[.pointer (some ⟨b, 0, none⟩)] w (Made (rotH b id bx l (node b' id' bx' al' d' rl rr)) (fun k => k ∈ b :: (blocks l ++ blocks (node b' id' bx' al' d' rl rr))) w) := by
 obtain ⟨al, d, hB⟩ := h.blk
 have nl := fine_dp h.fl
 have nr := fine_dp h.fr
 have hdl := h.dl
 have hdr := h.dr
 have hwr : IntKind.i64.wrap (dp l - dp (node b' id' bx' al' d' rl rr)) = dp l - dp (node b' id' bx' al' d' rl rr) := IntWalk.i64_in _ Z8
 have HDL := Lib.hid (depth_any l w.drew (h.isl.kd (Keeps.refl _ w).drew))
 have HDR := Lib.hid (depth_any (node b' id' bx' al' d' rl rr) w.drew (h.isr.kd (Keeps.refl _ w).drew))
 have HDA := Lib.hid (depth_any rl w.drew.drew (h.isr.2.1.kd (Keeps.refl _ w).drew.drew))
 have HDB := Lib.hid (depth_any rr w.drew.drew (h.isr.2.2.kd (Keeps.refl _ w).drew.drew))
 have na := fine_dp h.fr.2.2.2.1
 have nb := fine_dp h.fr.2.2.2.2
 have ea := h.fr.2.2.1
 have hC := h.isr.1
 have HS := Lib.hid ((upHigh_n b id bx l (node b' id' bx' al' d' rl rr) w.drew.drew ((h.mono Z8).kd (Keeps.refl _ w).drew.drew) ZA7).mono fun e w' hm => Made.after (T := fun k => k ∈ b :: (blocks l ++ blocks (node b' id' bx' al' d' rl rr))) (w0 := w) hm (Keeps.refl _ w).drew.drew (fun _ h => h))
 have cB := hB.cell
 have cC := hC.cell
 unfold ncells at cB cC
 rw [show ptr (node b' id' bx' al' d' rl rr) = some ⟨b', 0, none⟩ from rfl] at cB
 rw [show ptr (node b' id' bx' al' d' rl rr) = some ⟨b', 0, none⟩ from rfl] at HDR
 rw [show dp (node b' id' bx' al' d' rl rr) = d' from rfl] at *
 generalize hp1 : ptr l = p1 at *
 generalize hp2 : ptr rl = p2 at *
 generalize hp3 : ptr rr = p3 at *
 generalize hq1 : dp l = q1 at *
 generalize hq2 : dp rl = q2 at *
 generalize hq3 : dp rr = q3 at *
 clear hB hC h
 go_enter Tryz.func163, Tryz.ntmps163
 go_wp2
 go_region_held3 (fun W => ∀ i : Nat, W.cell? ⟨b, i, none⟩ = ([.int .u32 (id : Int), .int .i32 bx.x0, .int .i32 bx.y0, .int .i32 bx.x1, .int .i32 bx.y1, .int .i32 al.x0, .int .i32 al.y0, .int .i32 al.x1, .int .i32 al.y1, .pointer p1, .pointer (some ⟨b', 0, none⟩), .int .i64 d] : List Value)[i]?) (first | with_reducible assumption | (repeat (first | with_reducible assumption | with_reducible refine all_drew ?_))) (first | (go_at_call 166; (first | refine HDL.out.mono ?_ | refine HDR.out.mono ?_); rintro e w1 ⟨rfl, rfl⟩))
 go_wp2
 go_region_held3 (fun W => (∀ i : Nat, W.cell? ⟨b, i, none⟩ = ([.int .u32 (id : Int), .int .i32 bx.x0, .int .i32 bx.y0, .int .i32 bx.x1, .int .i32 bx.y1, .int .i32 al.x0, .int .i32 al.y0, .int .i32 al.x1, .int .i32 al.y1, .pointer p1, .pointer (some ⟨b', 0, none⟩), .int .i64 d] : List Value)[i]?) ∧ (∀ i : Nat, W.cell? ⟨b', i, none⟩ = ([.int .u32 (id' : Int), .int .i32 bx'.x0, .int .i32 bx'.y0, .int .i32 bx'.x1, .int .i32 bx'.y1, .int .i32 al'.x0, .int .i32 al'.y0, .int .i32 al'.x1, .int .i32 al'.y1, .pointer p2, .pointer p3, .int .i64 d'] : List Value)[i]?)) (first | with_reducible assumption | (refine ⟨?_, ?_⟩ <;> (repeat (first | with_reducible assumption | with_reducible refine all_drew ?_)))) (first | (go_at_call 166; (first | refine HDA.out.mono ?_ | refine HDB.out.mono ?_); rintro e w1 ⟨rfl, rfl⟩))
 go_wp2_with (go_at_call 167; (with_reducible refine HS.out.mono ?_); rintro e w4 ⟨rfl, hk4, hT4⟩)
 go_ret
 exact ⟨rfl, hk4, hT4⟩
end Tree
open Go.RowKit
namespace Tree
open Mem BT
theorem even_high2 (b id : Nat) (bx : Bx) (b' id' : Nat) (bx' al' : Bx) (d' : Int) (rl rr : BT) (l : BT) (w : World) (h : Nd 800 w b id bx l (node b' id' bx' al' d' rl rr)) (h1 : dp l - dp (node b' id' bx' al' d' rl rr) = -2) (h2 : dp rr < dp rl) :
 Calls Tryz.prog 163 #[.pointer (some ⟨b, 0, none⟩)] w (Made (rotH b id bx l (rotL b' id' bx' rl rr)) (fun k => k ∈ b :: (blocks l ++ blocks (node b' id' bx' al' d' rl rr))) w) := by
 obtain ⟨al, d, hB⟩ := h.blk
 have nl := fine_dp h.fl
 have nr := fine_dp h.fr
 have hdl := h.dl
 have hdr := h.dr
 have hwr : IntKind.i64.wrap (dp l - dp (node b' id' bx' al' d' rl rr)) = dp l - dp (node b' id' bx' al' d' rl rr) := IntWalk.i64_in _ Z8
 have HDL := Lib.hid (depth_any l w.drew (h.isl.kd (Keeps.refl _ w).drew))
 have HDR := Lib.hid (depth_any (node b' id' bx' al' d' rl rr) w.drew (h.isr.kd (Keeps.refl _ w).drew))
 have HDA := Lib.hid (depth_any rl w.drew.drew (h.isr.2.1.kd (Keeps.refl _ w).drew.drew))
 have HDB := Lib.hid (depth_any rr w.drew.drew (h.isr.2.2.kd (Keeps.refl _ w).drew.drew))
 have na := fine_dp h.fr.2.2.2.1
 have nb := fine_dp h.fr.2.2.2.2
 have ea := h.fr.2.2.1
 have hC := h.isr.1
 have hne : rl ≠ nil := by rintro rfl; simp only [dp_nil] at h2; omega
 have HI := Lib.hid ((upLow_n b' id' bx' rl rr w.drew.drew ((h.rite.mono Z8).kd (Keeps.refl _ w).drew.drew) hne).mono fun e w' hm => Made.after (T := fun k => k ∈ blocks (node b' id' bx' al' d' rl rr)) (w0 := w) hm (Keeps.refl _ w).drew.drew (fun _ h => h))
 have hpm : (blocks (rotL b' id' bx' rl rr)).Perm (blocks (node b' id' bx' al' d' rl rr)) := perm_rotL _ _ _ _ _
 have hd1 : dp (rotL b' id' bx' rl rr) ≤ 900 := by
  have := dp_rotL (b := b') (id := id') (bx := bx') h.fr.2.2.2.1 h.fr.2.2.2.2
  simp only [dp_node] at hdl hdr
  omega
 have hS2 : ∀ e w1, Made (rotL b' id' bx' rl rr) (fun k => k ∈ blocks (node b' id' bx' al' d' rl rr)) w e w1 → e = .returned (.pointer (ptr (rotL b' id' bx' rl rr))) ∧ w1.cell? ⟨b, 10, none⟩ = some (.pointer (some ⟨b', 0, none⟩)) ∧ (∀ i, w1.frozen? ⟨b, i, none⟩ = false) ∧ Calls Tryz.prog 167 #[.pointer (some ⟨b, 0, none⟩)] (w1.setCell ⟨b, 10, none⟩ (.pointer (ptr (rotL b' id' bx' rl rr)))) (Made (rotH b id bx l (rotL b' id' bx' rl rr)) (fun k => k ∈ b :: (blocks l ++ blocks (node b' id' bx' al' d' rl rr))) w) := by
  rintro e w1 ⟨rfl, hk, hT⟩
  have hB1 := hB.keeps hk h.br
  have hN := h.setR (N := 900) hk h.farR hT (h.permR hpm) (rotL_fine h.fr.1 h.fr.2.2.2.1 h.fr.2.2.2.2) hd1 Z8
  refine ⟨rfl, hB1.cell 10, hB1.frozen, (upHigh_n b id bx l (rotL b' id' bx' rl rr) _ hN (rotL_ne _ _ _ _ _)).mono fun e w' hm => Made.after hm ((hk.mono (fun k _ hx => ?_)).setCell ZA7 _) (fun k hx => ?_)⟩
  ·exact List.mem_cons_of_mem _ (List.mem_append.2 (.inr hx))
  ·exact ((hpm.append_left (blocks l)).cons b).mem_iff.1 hx
 have HS2 := Lib.hid hS2; clear hS2
 clear hpm hd1 hne
 have cB := hB.cell
 have cC := hC.cell
 unfold ncells at cB cC
 rw [show ptr (node b' id' bx' al' d' rl rr) = some ⟨b', 0, none⟩ from rfl] at cB
 rw [show ptr (node b' id' bx' al' d' rl rr) = some ⟨b', 0, none⟩ from rfl] at HDR
 rw [show dp (node b' id' bx' al' d' rl rr) = d' from rfl] at *
 generalize hp1 : ptr l = p1 at *
 generalize hp2 : ptr rl = p2 at *
 generalize hp3 : ptr rr = p3 at *
 generalize hq1 : dp l = q1 at *
 generalize hq2 : dp rl = q2 at *
 generalize hq3 : dp rr = q3 at *
 clear hB hC h
 go_enter Tryz.func163, Tryz.ntmps163
 go_wp2
 go_region_held3 (fun W => ∀ i : Nat, W.cell? ⟨b, i, none⟩ = ([.int .u32 (id : Int), .int .i32 bx.x0, .int .i32 bx.y0, .int .i32 bx.x1, .int .i32 bx.y1, .int .i32 al.x0, .int .i32 al.y0, .int .i32 al.x1, .int .i32 al.y1, .pointer p1, .pointer (some ⟨b', 0, none⟩), .int .i64 d] : List Value)[i]?) (first | with_reducible assumption | (repeat (first | with_reducible assumption | with_reducible refine all_drew ?_))) (first | (go_at_call 166; (first | refine HDL.out.mono ?_ | refine HDR.out.mono ?_); rintro e w1 ⟨rfl, rfl⟩))
 go_wp2
 go_region_held3 (fun W => (∀ i : Nat, W.cell? ⟨b, i, none⟩ = ([.int .u32 (id : Int), .int .i32 bx.x0, .int .i32 bx.y0, .int .i32 bx.x1, .int .i32 bx.y1, .int .i32 al.x0, .int .i32 al.y0, .int .i32 al.x1, .int .i32 al.y1, .pointer p1, .pointer (some ⟨b', 0, none⟩), .int .i64 d] : List Value)[i]?) ∧ (∀ i : Nat, W.cell? ⟨b', i, none⟩ = ([.int .u32 (id' : Int), .int .i32 bx'.x0, .int .i32 bx'.y0, .int .i32 bx'.x1, .int .i32 bx'.y1, .int .i32 al'.x0, .int .i32 al'.y0, .int .i32 al'.x1, .int .i32 al'.y1, .pointer p2, .pointer p3, .int .i64 d'] : List Value)[i]?)) (first | with_reducible assumption | (refine ⟨?_, ?_⟩ <;> (repeat (first | with_reducible assumption | with_reducible refine all_drew ?_)))) (first | (go_at_call 166; (first | refine HDA.out.mono ?_ | refine HDB.out.mono ?_); rintro e w1 ⟨rfl, rfl⟩))
 go_wp2_with (first
  | (go_at_call 168; (with_reducible refine HI.out.mono ?_); intro e w4 hm4; obtain ⟨rfl, c4, f4, hS4⟩ := HS2.out e w4 hm4; have HS4 := Lib.hid hS4; clear hm4 hS4)
  | (go_at_call 167; (with_reducible refine HS4.out.mono ?_); rintro e w5 ⟨rfl, hk4, hT4⟩))
 go_ret
 exact ⟨rfl, hk4, hT4⟩
end Tree
end Go.Proofs.YtdbpfbokfmpgcaaGreat
