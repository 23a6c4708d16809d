/-
TrZ: Put.
TrP: Put, Del, Box, Len, Depth, New of a tree that is there.
TrQ: Del, Box, Len, Depth, New.
-/
import Derived.Test.YtdbpfbokfmpgcaaGreatZbdTrXTrY
set_option linter.unusedVariables false
set_option linter.unusedSimpArgs false
set_option maxHeartbeats 16000000
set_option maxRecDepth 100000
attribute [local go_sem] Go.Oper.semAt_some
namespace Go.Proofs.YtdbpfbokfmpgcaaGreat
theorem ZW {p : Prop} (h : p := by
 go_enter Tryz.func155, Tryz.ntmps155
 go_wp2_with (first | (go_at_call 157; (with_reducible refine HTh.out.mono ?_); rintro e w1 ⟨rfl, rfl⟩) | (go_at_call 143; (with_reducible refine (HRt.out _).mono ?_); rintro e w2 ⟨rfl, hk2⟩; have K3 := Lib.hid (K2.out.trans hk2); have hlen := (HM.out.keeps K3.out (fun h => h)).len; rw [← HN.out] at hlen; have cT2 := (HH.out.keeps K3.out (fun h => h)).cell; clear hk2 cT))
 go_ret
 exact Did.same H.out K3.out _) : p := h
open Go.RowKit
namespace Tree
open Mem BT
theorem IsT.mem {w : World} : ∀ {t : BT}, IsT w t → ∀ {x : Nat}, x ∈ blocks t → ∃ cs, Blk w x 201 cs
 | nil, _, x, hx => by simp [blocks] at hx
 | node b id bx al d l r, h, x, hx => by
  simp only [blocks, List.mem_cons, List.mem_append] at hx
  rcases hx with rfl | hx | hx
  ·exact ⟨_, h.1⟩
  ·exact IsT.mem h.2.1 hx
  ·exact IsT.mem h.2.2 hx
def El32 (p : Nat × Bx) : Prop := p.1 < 4294967296 ∧ (-2147483648 ≤ p.2.x0 ∧ p.2.x0 ≤ 2147483647) ∧ (-2147483648 ≤ p.2.y0 ∧ p.2.y0 ≤ 2147483647) ∧ (-2147483648 ≤ p.2.x1 ∧ p.2.x1 ≤ 2147483647) ∧ (-2147483648 ≤ p.2.y1 ∧ p.2.y1 ≤ 2147483647)
def TrS (w : World) (T : Nat) (S : Nat → Prop) (L : List (Nat × Bx)) : Prop :=
 ∃ r t, Hd w T r t ∧ MapL w r L ∧ inord t = L ∧ Rising L ∧ (∀ p ∈ L, El32 p) ∧ L.length ≤ 65536 ∧ ∀ k, S k ↔ (k = T ∨ k = r ∨ k ∈ blocks t)
def putR (L : List (Nat × Bx)) (id : Nat) (b : Bx) : Int × List (Nat × Bx) :=
 if b.right = false then (142, L) else if hasL L id then (140, L) else if 65536 ≤ L.length then (5, L) else (0, putL id b L)
def delR (L : List (Nat × Bx)) (id : Nat) : Int × List (Nat × Bx) := if hasL L id then (0, delL id L) else (141, L)
theorem TrS.inb {w : World} {T : Nat} {S : Nat → Prop} {L : List (Nat × Bx)} (h : TrS w T S L) : Inb S w := by
 obtain ⟨r, t, hH, hM, _, _, _, _, hS⟩ := h
 intro k hk
 rcases (hS k).1 hk with rfl | rfl | hk
 ·exact hH.blk.lt
 ·exact hM.lt
 ·exact hH.ist.lt k hk
theorem TrS.keeps {U : Nat → Prop} {w w' : World} {T : Nat} {S : Nat → Prop} {L : List (Nat × Bx)} (h : TrS w T S L) (hk : Keeps U w w') (hd : ∀ k, S k → ¬ U k) : TrS w' T S L := by
 obtain ⟨r, t, hH, hM, h1, h2, h3, h4, hS⟩ := h
 exact ⟨r, t, ⟨hH.blk.keeps hk (hd _ ((hS _).2 (.inl rfl))), hH.ist.keeps hk (fun x hx => hd _ ((hS _).2 (.inr (.inr hx)))), hH.ok, hH.nodup⟩, hM.keeps hk (hd _ ((hS _).2 (.inr (.inl rfl)))), h1, h2, h3, h4, hS⟩
theorem TrS.kd {w w' : World} {T : Nat} {S : Nat → Prop} {L : List (Nat × Bx)} (h : TrS w T S L) (hk : Keeps (fun _ => False) w w') : TrS w' T S L := h.keeps hk (fun _ _ h => h)
def Did (T : Nat) (S : Nat → Prop) (p : Int × List (Nat × Bx)) (w : World) (e : Ending) (w' : World) : Prop :=
 e = .returned (.int .i64 p.1) ∧ ∃ S', Foot S S' w w' ∧ TrS w' T S' p.2
theorem Did.same {w w' : World} {T : Nat} {S : Nat → Prop} {L : List (Nat × Bx)} (h : TrS w T S L) (hk : Keeps (fun _ => False) w w') (c : Int) : Did T S (c, L) w (.returned (.int .i64 c)) w' :=
 ⟨rfl, S, Foot.same (hk.mono (fun _ _ h => h.elim)), h.kd hk⟩
theorem put_ok (T : Nat) (S : Nat → Prop) (L : List (Nat × Bx)) (id : Nat) (b : Bx) (w : World) (h : TrS w T S L) (hid : El32 (id, b)) (h1 : b.right = true) (h2 : hasL L id = false) (h3 : L.length < 65536) :
 Calls Tryz.prog 155 #[.pointer (some ⟨T, 0, none⟩), .int .u32 (id : Int), .agg #[.int .i32 b.x0, .int .i32 b.y0, .int .i32 b.x1, .int .i32 b.y1]] w (Did T S (0, putL id b L) w) := by
 obtain ⟨r, t, hH, hM, he, hR, hI, hl, hS⟩ := h
 have k1 := (Keeps.refl (fun _ => False) w).alloc (.cells #[.int .i32 b.x0, .int .i32 b.y0, .int .i32 b.x1, .int .i32 b.y1] 39)
 have hM1 := hM.keeps k1 (fun h => h)
 have hT1 := hH.blk.keeps k1 (fun h => h)
 have HTh := Lib.hid (there_yes hT1)
 have hlk := hM1.look hid.1
 rw [h2, lookL_none h2] at hlk
 simp only [Bx.val, Bx.zero] at hlk
 have HRt := Lib.hid (fun W => (show Calls _ _ _ W (Gave (.bool true) W) from h1 ▸ right_any b.x0 b.y0 b.x1 b.y1 W))
 have HX := Lib.hid ((Blk.new w 39 [.int .i32 b.x0, .int .i32 b.y0, .int .i32 b.x1, .int .i32 b.y1]).alloc (.cells #[.int .i32 0, .int .i32 0, .int .i32 0, .int .i32 0] 39))
 have HM := Lib.hid hM
 have HH := Lib.hid hH
 have HK1 := Lib.hid (k1.alloc (.cells #[.int .i32 0, .int .i32 0, .int .i32 0, .int .i32 0] 39))
 have cT := hT1.cell
 clear k1 hM1 hT1 hM hH
 obtain ⟨nn, hnn⟩ := ZBD ((L.length : Int))
 have h4 : nn < 65536 := by omega
 have HN := Lib.hid hnn
 clear hnn
 have h5 : L.length ≤ 1000000 := by omega
 have HR := Lib.hid hR; have HI := Lib.hid hI; have HS := Lib.hid hS
 clear h3 hl hR hI hS
 go_enter Tryz.func155, Tryz.ntmps155
 go_wp2_with (first
  | (go_at_call 157; (with_reducible refine HTh.out.mono ?_); rintro e w1 ⟨rfl, rfl⟩)
  | (go_at_call 143; (with_reducible refine (HRt.out _).mono ?_); rintro e w2 ⟨rfl, hk2⟩; have K2 := Lib.hid (HK1.out.trans hk2); have hX2 := HX.out.kd hk2; have hM2 := HM.out.keeps K2.out (fun h => h); have hT2 := HH.out.blk.keeps K2.out (fun h => h); have hlen := hM2.len; rw [← HN.out] at hlen; have cT2 := hT2.cell; have cX2 := hX2.cell; have cT3 := hT2.drew.cell; have cX3 := hX2.drew.cell;
      obtain ⟨w3, hup, hM3, hk3⟩ := (hM2.keeps (Keeps.refl (fun _ => False) w2).drew (fun h => h)).put hid.1 b h2 h5;
      have hX3 := hX2.drew.keeps hk3 (fun e => hM2.ne hX2 e); have hT3 := hT2.drew.keeps hk3 (fun e => hM2.ne hT2 e);
      unfold Bx.val at hup;
      have HM3 := Lib.hid hM3; have HK3 := Lib.hid hk3; have HX3 := Lib.hid hX3; have HT3 := Lib.hid hT3; have hS3 := And.intro hT3.cell hX3.cell; clear hX2 hM2 hT2 hk2 cT hM3 hk3 hX3 hT3))
 go_region_held3 (fun W => (∀ i : Nat, W.cell? ⟨T, i, none⟩ = ([.pointer (ptr t), .map (some r)] : List Value)[i]?) ∧ (∀ i : Nat, W.cell? ⟨w.heap.size, i, none⟩ = ([.int .i32 b.x0, .int .i32 b.y0, .int .i32 b.x1, .int .i32 b.y1] : List Value)[i]?)) (first | with_reducible assumption | exact ⟨cT3, cX3⟩) (fail)
 clear cT2 cX2 cT3 cX3 hlen hlk
 have cX4 : ∀ o, ∀ i : Nat, (w3.alloc o).drew.cell? ⟨w.heap.size, i, none⟩ = ([.int .i32 b.x0, .int .i32 b.y0, .int .i32 b.x1, .int .i32 b.y1] : List Value)[i]? := fun o i => (HX3.out.alloc o).cell i
 have hlt3 : w.heap.size < w3.heap.size := HX3.out.lt
 clear hS3
 go_wp2
 go_region_held3 (fun W => (∀ i : Nat, W.cell? ⟨w.heap.size, i, none⟩ = ([.int .i32 b.x0, .int .i32 b.y0, .int .i32 b.x1, .int .i32 b.y1] : List Value)[i]?)) (repeat (first | with_reducible assumption | exact cX4 _ | with_reducible refine all_drew ?_ | (with_reducible refine all_far ?_ Z8))) (fail)
 have hlt2 : w.heap.size ≤ w3.heap.size := Nat.le_of_lt hlt3
 have hTlt : T < w3.heap.size := HT3.out.lt
 have K3 : Keeps (fun k => k = r) w w3 := (K2.out.mono (fun _ _ h => h.elim)).drew.trans HK3.out
 have hTb : T ∉ blocks t := fun hx => by
  obtain ⟨cs, hc⟩ := HH.out.ist.mem hx
  exact Blk.ne_ HH.out.blk hc ZBN rfl
 have hrb : ∀ x ∈ blocks t, x ≠ r := fun x hx => by
  obtain ⟨cs, hc⟩ := HH.out.ist.mem hx
  exact HM.out.ne hc
 have k5 := ((Keeps.refl (fun _ => False) w3).alloc (.cells #[.int .u32 (id : Int), .int .i32 b.x0, .int .i32 b.y0, .int .i32 b.x1, .int .i32 b.y1, .int .i32 0, .int .i32 0, .int .i32 0, .int .i32 0, .pointer none, .pointer none, .int .i64 0] 201)).drew
 have hnb := (Blk.new w3 201 [.int .u32 (id : Int), .int .i32 b.x0, .int .i32 b.y0, .int .i32 b.x1, .int .i32 b.y1, .int .i32 0, .int .i32 0, .int .i32 0, .int .i32 0, .pointer none, .pointer none, .int .i64 0]).drew
 have hist : IsT w3 t := HH.out.ist.keeps K3 (fun x hx e => hrb x hx e)
 have hTw := HT3.out.keeps k5 (fun h => h)
 have cT5 := hTw.cell
 have hnbt : w3.heap.size ∉ blocks t := fun hx => by have := HH.out.ist.lt _ hx; omega
 have hdp : dp t ≤ 700 := by
  have := deepest HH.out.ok (d := 17) (by rw [he]; have := HN.out; omega)
  omega
 have HW := Lib.hid (with_t w3.heap.size id b h1 t _ (hist.kd k5) HH.out.ok HH.out.nodup hnbt hdp ⟨Bx.zero, 0, hnb⟩)
 have hfin : ∀ e w6, Made (ins w3.heap.size id b t) (fun k => k ∈ w3.heap.size :: blocks t) (w3.alloc (.cells #[.int .u32 (id : Int), .int .i32 b.x0, .int .i32 b.y0, .int .i32 b.x1, .int .i32 b.y1, .int .i32 0, .int .i32 0, .int .i32 0, .int .i32 0, .pointer none, .pointer none, .int .i64 0] 201)).drew e w6 →
  e = .returned (.pointer (ptr (ins w3.heap.size id b t))) ∧ (∀ i : Nat, w6.cell? ⟨T, i, none⟩ = ([.pointer (ptr t), .map (some r)] : List Value)[i]?) ∧ (∀ i, w6.frozen? ⟨T, i, none⟩ = false) ∧ Did T S (0, putL id b L) w (.returned (.int .i64 0)) (w6.setCell ⟨T, 0, none⟩ (.pointer (ptr (ins w3.heap.size id b t)))) := by
  rintro e w6 ⟨rfl, hk6, hT6⟩
  have hT6' := hTw.keeps hk6 (fun hx => (List.mem_cons.1 hx).elim (fun e => Z8) hTb)
  refine ⟨rfl, hT6'.cell, hT6'.frozen, rfl, fun k => k = T ∨ k = r ∨ k ∈ blocks (ins w3.heap.size id b t), ⟨?_, ?_⟩, r, ins w3.heap.size id b t, ⟨hT6'.set_ 0 _, hT6.keeps ((Keeps.refl (fun k => k = T) w6).setCell (p := ⟨T, 0, none⟩) ZA7 _) ?_, (ins_ok _ id b h1 HH.out.ok).1, ?_⟩, ?_, ?_, ?_, ?_, ?_, fun k => Iff.rfl⟩
  ·refine Keeps.setCell ?_ (p := ⟨T, 0, none⟩) (fun _ => (HS.out T).2 (.inl rfl)) _
   refine ((K3.mono (T := S) (fun k _ e => (HS.out k).2 (.inr (.inl e)))).trans (k5.mono (fun _ _ h => h.elim))).then hk6 (fun k hk hx => ?_)
   rcases List.mem_cons.1 hx with e | hx
   ·omega
   ·exact (HS.out k).2 (.inr (.inr hx))
  ·rintro k (hk | hk | hk)
   ·exact .inl ((HS.out k).2 (.inl hk))
   ·exact .inl ((HS.out k).2 (.inr (.inl hk)))
   ·rcases List.mem_cons.1 ((perm_ins _ id b t).mem_iff.1 hk) with e | hx
    ·exact .inr Z8
    ·exact .inl ((HS.out k).2 (.inr (.inr hx)))
  ·intro x hx e
   rcases List.mem_cons.1 ((perm_ins _ id b t).mem_iff.1 hx) with e' | hx
   ·omega
   ·exact hTb (e ▸ hx)
  ·exact (perm_ins _ id b t).nodup_iff.2 (List.nodup_cons.2 ⟨hnbt, HH.out.nodup⟩)
  ·refine (((HM3.out.keeps k5 (fun h => h)).keeps hk6 (fun hx => ?_)).keeps ((Keeps.refl (fun k => k = T) w6).setCell (p := ⟨T, 0, none⟩) ZA7 _) (fun e => ?_))
   ·rcases List.mem_cons.1 hx with e | hx
    ·have := HM3.out.lt; omega
    ·exact hrb _ hx rfl
   ·exact HM.out.ne HH.out.blk e.symm
  ·rw [inord_ins _ id b t (by rw [he]; exact HR.out), he]
  ·exact putL_rising id b L HR.out (hasL_no.1 h2)
  ·intro p hp
   rcases (putL_mem id b L p).1 hp with rfl | hp
   ·exact hid
   ·exact HI.out p hp
  ·rw [putL_length]; have := HN.out; omega
 have HF := Lib.hid hfin
 clear hfin hnb hist hTw hnbt hdp k5 K3 hTb hrb cX4
 all_goals
  go_wp2_with (go_at_call 159; (with_reducible refine HW.out.mono ?_); intro e w6 hm6; obtain ⟨rfl, c6, f6, hd6⟩ := HF.out e w6 hm6; have HD6 := Lib.hid hd6; clear hm6 hd6)
  go_ret
  exact HD6.out
end Tree
open Go.RowKit
namespace Tree
open Mem BT
theorem put_t (T : Nat) (S : Nat → Prop) (L : List (Nat × Bx)) (id : Nat) (b : Bx) (w : World) (h : TrS w T S L) (hid : El32 (id, b)) :
 Calls Tryz.prog 155 #[.pointer (some ⟨T, 0, none⟩), .int .u32 (id : Int), .agg #[.int .i32 b.x0, .int .i32 b.y0, .int .i32 b.x1, .int .i32 b.y1]] w (Did T S (putR L id b) w) := by
 by_cases h123 : b.right = true ∧ hasL L id = false ∧ L.length < 65536
 ·obtain ⟨h1, h2, h3⟩ := h123
  have e : putR L id b = (0, putL id b L) := by
   unfold putR
   rw [if_neg (by simp [h1]), if_neg (by simp [h2]), if_neg Z8]
  rw [e]
  exact put_ok T S L id b w h hid h1 h2 h3
 have h0 := h
 obtain ⟨r, t, hH, hM, he, hR, hI, hl, hS⟩ := h0
 have k1 := (Keeps.refl (fun _ => False) w).alloc (.cells #[.int .i32 b.x0, .int .i32 b.y0, .int .i32 b.x1, .int .i32 b.y1] 39)
 have k2 := k1.alloc (.cells #[.int .i32 (lookL L id).x0, .int .i32 (lookL L id).y0, .int .i32 (lookL L id).x1, .int .i32 (lookL L id).y1] 39)
 have hM1 := hM.keeps k1 (fun h => h)
 have hT1 := hH.blk.keeps k1 (fun h => h)
 have HTh := Lib.hid (there_yes hT1)
 have hlk := hM1.look hid.1
 simp only [Bx.val] at hlk
 have cT := hT1.cell
 obtain ⟨nn, hnn⟩ := ZBD ((L.length : Int))
 have HN := Lib.hid hnn
 have H := Lib.hid h
 have HM := Lib.hid hM
 have HH := Lib.hid hH.blk
 have K2 := Lib.hid k2
 by_cases h1 : b.right = true
 ·have HRt := Lib.hid (fun W => (show Calls _ _ _ W (Gave (.bool true) W) from h1 ▸ right_any b.x0 b.y0 b.x1 b.y1 W))
  cases h2 : hasL L id with
  | true =>
   have e : putR L id b = (140, L) := by
    unfold putR
    rw [if_neg (by simp [h1]), if_pos h2]
   rw [e]
   rw [h2] at hlk
   clear h k1 hM1 hT1 hM hH hR hI hl hS hnn h123 k2 he
   exact ZW
  | false =>
   have h3 : 65536 ≤ L.length := Nat.le_of_not_lt fun h3 => h123 ⟨h1, h2, h3⟩
   have e : putR L id b = (5, L) := by
    unfold putR
    rw [if_neg (by simp [h1]), if_neg (by simp [h2]), if_pos h3]
   rw [e]
   rw [h2] at hlk
   have h4 : ¬ nn < 65536 := by omega
   clear h k1 hM1 hT1 hM hH hR hI hl hS hnn h123 h3 k2 he
   exact ZW
 ·have e : putR L id b = (142, L) := by
   unfold putR
   rw [if_pos (by simpa using h1)]
  rw [e]
  have HRt := Lib.hid (fun W => (show Calls _ _ _ W (Gave (.bool false) W) from (Bool.not_eq_true _ ▸ h1 : b.right = false) ▸ right_any b.x0 b.y0 b.x1 b.y1 W))
  generalize hasL L id = hb at *
  clear h k1 hM1 hT1 hM hH hR hI hl hS hnn h123 k2 he
  exact ZW
end Tree
open Go.RowKit
namespace Tree
open Mem BT
theorem has_of {id : Nat} : ∀ {t : BT}, Rising (inord t) → (∃ p ∈ inord t, p.1 = id) → Has id t
 | nil, _, ⟨p, hp, _⟩ => by simp [inord] at hp
 | node b id' bx al d l r, hr, ⟨p, hp, he⟩ => by
  obtain ⟨h1, h2, h3, h4⟩ := Rising.app.1 hr
  simp only [inord, List.mem_append, List.mem_cons] at hp
  rw [Has]
  rcases hp with hp | rfl | hp
  ·have := h3 p hp
   rw [if_pos (by simp only at this; omega)]
   exact has_of h1 ⟨p, hp, he⟩
  ·rw [if_neg (by simp only at he; omega), if_neg (by simp only at he; omega)]; trivial
  ·have := h4 p hp
   rw [if_neg (by simp only at this; omega), if_pos (by simp only at this; omega)]
   exact has_of h2 ⟨p, hp, he⟩
theorem del_t (T : Nat) (S : Nat → Prop) (L : List (Nat × Bx)) (id : Nat) (w : World) (h : TrS w T S L) (hid : id < 4294967296) :
 Calls Tryz.prog 152 #[.pointer (some ⟨T, 0, none⟩), .int .u32 (id : Int)] w (Did T S (delR L id) w) := by
 have h0 := h
 obtain ⟨r, t, hH, hM, he, hR, hI, hl, hS⟩ := h0
 have k1 := (Keeps.refl (fun _ => False) w).alloc (.cells #[.int .i32 (lookL L id).x0, .int .i32 (lookL L id).y0, .int .i32 (lookL L id).x1, .int .i32 (lookL L id).y1] 39)
 have hM1 := hM.keeps k1 (fun h => h)
 have hT1 := hH.blk.keeps k1 (fun h => h)
 have HTh := Lib.hid (there_yes hH.blk)
 have hlk := hM.look hid
 simp only [Bx.val] at hlk
 have cT := hH.blk.cell
 have K1 := Lib.hid k1
 have H := Lib.hid h
 cases h2 : hasL L id with
 | false =>
  rw [show delR L id = (141, L) by unfold delR; rw [if_neg (by simp [h2])]]
  rw [h2] at hlk
  clear h k1 hM1 hT1 hM hH hR hI hl hS he
  go_enter Tryz.func152, Tryz.ntmps152
  go_wp2_with (go_at_call 157; (with_reducible refine HTh.out.mono ?_); rintro e w1 ⟨rfl, rfl⟩)
  go_ret
  exact Did.same H.out K1.out _
 | true =>
  rw [show delR L id = (0, delL id L) by unfold delR; rw [if_pos h2]]
  rw [h2] at hlk
  obtain ⟨w2, hrun, hM2, hk2⟩ := hM1.del hid hR h2 0
  have hT2 := hT1.keeps hk2 (fun e => hM1.ne hT1 e)
  have hrb : ∀ x ∈ blocks t, x ≠ r := fun x hx => by
   obtain ⟨cs, hc⟩ := hH.ist.mem hx
   exact hM.ne hc
  have hTb : T ∉ blocks t := fun hx => by
   obtain ⟨cs, hc⟩ := hH.ist.mem hx
   exact Blk.ne_ hH.blk hc ZBN rfl
  have K3 : Keeps (fun k => k = r) w w2 := (k1.mono (fun _ _ h => h.elim)).trans hk2
  have hist : IsT w2 t := hH.ist.keeps K3 (fun x hx e => hrb x hx e)
  have hdp : dp t ≤ 700 := by
   have := deepest hH.ok (d := 17) (by rw [he]; omega)
   omega
  have hhas : Has id t := has_of (by rw [he]; exact hR) (by rw [he]; exact hasL_iff.1 h2)
  have HW := Lib.hid (without_t id t w2 hist hH.ok hH.nodup hhas hdp)
  have hfin : ∀ e w6, Made (del id t) (fun k => k ∈ blocks t) w2 e w6 →
   e = .returned (.pointer (ptr (del id t))) ∧ (∀ i : Nat, w6.cell? ⟨T, i, none⟩ = ([.pointer (ptr t), .map (some r)] : List Value)[i]?) ∧ (∀ i, w6.frozen? ⟨T, i, none⟩ = false) ∧ Did T S (0, delL id L) w (.returned (.int .i64 0)) (w6.setCell ⟨T, 0, none⟩ (.pointer (ptr (del id t)))) := by
   rintro e w6 ⟨rfl, hk6, hT6⟩
   have hT6' := hT2.keeps hk6 hTb
   have ks := (Keeps.refl (fun k => k = T) w6).setCell (p := ⟨T, 0, none⟩) ZA7 (.pointer (ptr (del id t)))
   refine ⟨rfl, hT6'.cell, hT6'.frozen, rfl, fun k => k = T ∨ k = r ∨ k ∈ blocks (del id t), ⟨?_, ?_⟩, r, del id t, ⟨hT6'.set_ 0 _, hT6.keeps ks (fun x hx e => hTb (e ▸ del_blocks id t x hx)), (del_ok id hH.ok).1, del_nodup id t hH.nodup⟩, ?_, ?_, delL_rising id hR, ?_, ?_, fun k => Iff.rfl⟩
   ·refine Keeps.setCell ?_ (p := ⟨T, 0, none⟩) (fun _ => (hS T).2 (.inl rfl)) _
    exact (K3.mono (T := S) (fun k _ e => (hS k).2 (.inr (.inl e)))).trans (hk6.mono (fun k _ hx => (hS k).2 (.inr (.inr hx))))
   ·rintro k (hk | hk | hk)
    ·exact .inl ((hS k).2 (.inl hk))
    ·exact .inl ((hS k).2 (.inr (.inl hk)))
    ·exact .inl ((hS k).2 (.inr (.inr (del_blocks id t k hk))))
   ·exact (hM2.keeps hk6 (fun hx => hrb _ hx rfl)).keeps ks (fun e => hM.ne hH.blk e.symm)
   ·rw [inord_del id t (by rw [he]; exact hR), he]
   ·intro p hp; exact hI p (List.mem_filter.1 hp).1
   ·have := delL_length hR h2; show (delL id L).length ≤ 65536; omega
  have HF := Lib.hid hfin
  have cT2 := hT2.cell
  have cT1 := hT1.cell
  clear h k1 hM1 hT1 hM hH hR hI hl hS he hfin hT2 hrb hTb K3 hist hdp hhas hk2 hM2
  go_enter Tryz.func152, Tryz.ntmps152
  go_wp2_with (first
   | (go_at_call 157; (with_reducible refine HTh.out.mono ?_); rintro e w1 ⟨rfl, rfl⟩)
   | (go_at_call 158; (with_reducible refine HW.out.mono ?_); intro e w6 hm6; obtain ⟨rfl, c6, f6, hd6⟩ := HF.out e w6 hm6; have HD6 := Lib.hid hd6; clear hm6 hd6))
  go_ret
  exact HD6.out
theorem len_t (T : Nat) (S : Nat → Prop) (L : List (Nat × Bx)) (w : World) (h : TrS w T S L) :
 Calls Tryz.prog 154 #[.pointer (some ⟨T, 0, none⟩)] w fun e w' => e = .returned (.int .i64 (L.length : Int)) ∧ w = w' := by
 obtain ⟨r, t, hH, hM, he, hR, hI, hl, hS⟩ := h
 have HTh := Lib.hid (there_yes hH.blk)
 have hlen := hM.len
 have cT := hH.blk.cell
 clear hM hH hR hI hl hS he
 go_enter Tryz.func154, Tryz.ntmps154
 go_wp2_with (go_at_call 157; (with_reducible refine HTh.out.mono ?_); rintro e w1 ⟨rfl, rfl⟩)
 go_ret
 exact ⟨rfl, rfl⟩
theorem new_t (w : World) : Calls Tryz.prog 17 #[] w fun e w' => ∃ T S, e = .returned (.pointer (some ⟨T, 0, none⟩)) ∧ TrS w' T S [] ∧ Keeps (fun _ => False) w w' ∧ ∀ k, S k → w.heap.size ≤ k := by
 have hmm := @run_makeMap Tryz.prog
 have b1 := (Blk.new w 87 [.pointer none, .map (some (w.heap.size + 1))]).alloc (.map #[] 0)
 have hm : MapL ((w.alloc (.cells #[.pointer none, .map (some (w.heap.size + 1))] 87)).alloc (.map #[] 0)) (w.heap.size + 1) [] := by
  have hown := World.ownsMap_made (w.alloc (.cells #[.pointer none, .map (some (w.heap.size + 1))] 87)) Tryz.prog 35 boxR
  simp only [World.size_alloc] at hown
  refine ⟨_, hown, rfl, fun id hid => ⟨rfl, fun h => by simp [hasL] at h⟩⟩
 have HB := Lib.hid b1
 have HM := Lib.hid hm
 clear b1 hm
 go_enter Tryz.func17, Tryz.ntmps17
 go_wp2
 go_ret
 refine ⟨w.heap.size, fun k => k = w.heap.size ∨ k = w.heap.size + 1 ∨ k ∈ blocks nil, rfl, ⟨w.heap.size + 1, nil, ⟨HB.out, trivial, trivial, List.nodup_nil⟩, HM.out, rfl, List.Pairwise.nil, ZA7, ZA7, fun k => Iff.rfl⟩, ((Keeps.refl _ w).alloc _).alloc _, ?_⟩
 rintro k (h | h | h)
 ·omega
 ·omega
 ·simp [blocks] at h
end Tree
end Go.Proofs.YtdbpfbokfmpgcaaGreat
