/-
WiK: a command is taken off, field by field.
-/
import Derived.Test.YtdaindihobfokaaGreatDoorZbcWiJ
namespace Go.Proofs.YtdaindihobfokaaGreatDoor
open Go.RowKit
set_option linter.unusedVariables false
set_option linter.unusedSimpArgs false
attribute [local go_sem] Oper.semAt_some
namespace Wi
open Mem
/-- the fields of an update -/
theorem fields_1 (cb : Nat) (cs : List Value) (w : World) (hc : Blk w cb 74 (.int .u8 1 :: cs)) : Calls Tryz.prog 84 #[.pointer (some ⟨cb, 0, none⟩)] w fun e w' => e = .returned (.tuple #[.slice (some ⟨w.heap.size + 1, 0, none⟩) 5 5, .bool true]) ∧ (w.alloc (.cells #[.pointer (some ⟨cb, 0, none⟩)] 143)).alloc (.cells #[.func (.func 115) #[] #[.pointer (some ⟨w.heap.size, 0, none⟩)], .func (.func 117) #[] #[.pointer (some ⟨w.heap.size, 0, none⟩)], .func (.func 118) #[] #[.pointer (some ⟨w.heap.size, 0, none⟩)], .func (.func 119) #[] #[.pointer (some ⟨w.heap.size, 0, none⟩)], .func (.func 121) #[] #[.pointer (some ⟨w.heap.size, 0, none⟩)]] 195) = w' := by
  have c0 := (hc.alloc (.cells #[.pointer (some ⟨cb, 0, none⟩)] 143)).cell 0
  have hlt := hc.lt
  simp only [List.getElem?_cons_zero] at c0
  have HL := Lib.hid hlt
  clear hc hlt
  go_enter Tryz.func84, Tryz.ntmps84
  go_wp2
  go_ret2
  exact ⟨rfl, rfl⟩
/-- between two fields -/
structure Cst (w0 w : World) (lb ib bb cb pb fb : Nat) (rest : Value) (L : List Nat) (at_ : Nat) (cs : List Value) : Prop where
  k : Keeps (fun k => k = ib ∨ k = cb ∨ k = lb) w0 w
  line : LineS w lb ib rest false
  ins : InS w ib bb L at_
  cmd : Blk w cb 74 cs
  box : Blk w pb 143 [.pointer (some ⟨cb, 0, none⟩)]
  fs : Blk w fb 195 [.func (.func 115) #[] #[.pointer (some ⟨pb, 0, none⟩)], .func (.func 117) #[] #[.pointer (some ⟨pb, 0, none⟩)], .func (.func 118) #[] #[.pointer (some ⟨pb, 0, none⟩)], .func (.func 119) #[] #[.pointer (some ⟨pb, 0, none⟩)], .func (.func 121) #[] #[.pointer (some ⟨pb, 0, none⟩)]]
theorem Cst.step {w0 w w' : World} {lb ib bb cb pb fb : Nat} {rest : Value} {L : List Nat} {at_ at2 : Nat} {cs cs2 : List Value} (h : Cst w0 w lb ib bb cb pb fb rest L at_ cs) (k : Keeps (fun k => k = ib ∨ k = cb) w w') (hi : InS w' ib bb L at2) (hb : Blk w' cb 74 cs2) : Cst w0 w' lb ib bb cb pb fb rest L at2 cs2 := by
  obtain ⟨_, _, hib, _⟩ := h.ins
  exact ⟨h.k.then k (fun _ _ e => e.elim .inl (fun e => .inr (.inl e))),
    h.line.keeps k (fun e => e.elim (Blk.ne_ h.line hib (by decide)) (Blk.ne_ h.line h.cmd (by decide))), hi, hb,
    h.box.keeps k (fun e => e.elim (Blk.ne_ h.box hib (by decide)) (Blk.ne_ h.box h.cmd (by decide))),
    h.fs.keeps k (fun e => e.elim (Blk.ne_ h.fs hib (by decide)) (Blk.ne_ h.fs h.cmd (by decide)))⟩
theorem Cst.part {w0 w : World} {lb ib bb cb pb fb : Nat} {rest : Value} {L : List Nat} {at_ : Nat} {cs : List Value} (h : Cst w0 w lb ib bb cb pb fb rest L at_ cs) : w.cell? ⟨lb, 3, none⟩ = some (.bool false) := h.line.cell 3
theorem Cst.fn {w0 w : World} {lb ib bb cb pb fb : Nat} {rest : Value} {L : List Nat} {at_ : Nat} {cs : List Value} (h : Cst w0 w lb ib bb cb pb fb rest L at_ cs) (i : Nat) (v : Value) (hv : ([.func (.func 115) #[] #[.pointer (some ⟨pb, 0, none⟩)], .func (.func 117) #[] #[.pointer (some ⟨pb, 0, none⟩)], .func (.func 118) #[] #[.pointer (some ⟨pb, 0, none⟩)], .func (.func 119) #[] #[.pointer (some ⟨pb, 0, none⟩)], .func (.func 121) #[] #[.pointer (some ⟨pb, 0, none⟩)]] : List Value)[i]? = some v) : w.cell? ⟨fb, i, none⟩ = some v := (h.fs.cell i).trans hv
set_option maxHeartbeats 4000000 in
set_option maxRecDepth 20000 in
theorem command_t (lb ib bb cb : Nat) (rest : Value) (L : List Nat) (i0 i1 i2 i3 n0 n1 n2 n3 t0 t1 t2 t3 x0 x1 x2 x3 y0 y1 y2 y3 : Nat) (x y : Int) (w : World)
    (hL : L = [1, 1, i0, i1, i2, i3, n0, n1, n2, n3, t0, t1, t2, t3, x0, x1, x2, x3, y0, y1, y2, y3]) (h8 : ∀ z ∈ L, z < 256)
    (hx : IntKind.i32.wrap (un4 x0 x1 x2 x3 : Int) = x) (hy : IntKind.i32.wrap (un4 y0 y1 y2 y3 : Int) = y)
    (hl : LineS w lb ib rest false) (h : InS w ib bb L 1) (cs : List Value) (hc : Blk w cb 74 (.int .u8 0 :: .int .u32 0 :: .int .u32 0 :: .int .u32 0 :: .int .i32 0 :: .int .i32 0 :: cs)) (hne : cb ≠ ib) (hbb : bb ≠ cb) (hbl : bb ≠ lb) :
    Calls Tryz.prog 53 #[.pointer (some ⟨lb, 0, none⟩), .pointer (some ⟨cb, 0, none⟩)] w fun e w' => (∃ v, e = .returned v) ∧ Keeps (fun k => k = ib ∨ k = cb ∨ k = lb) w w' ∧ LineS w' lb ib rest false ∧ InS w' ib bb L 22 ∧ Blk w' cb 74 (.int .u8 1 :: .int .u32 (un4 i0 i1 i2 i3 : Int) :: .int .u32 (un4 n0 n1 n2 n3 : Int) :: .int .u32 (un4 t0 t1 t2 t3 : Int) :: .int .i32 x :: .int .i32 y :: cs) := by
  have g : ∀ z, z ∈ L → z < 256 := h8
  rw [hL] at g
  have hcl : cb ≠ lb := Blk.ne_ hc hl (by decide)
  have hil : ib ≠ lb := by obtain ⟨_, _, hb, _⟩ := h; exact Blk.ne_ hb hl (by decide)
  have HN := Lib.hid (And.intro hne (And.intro hbb (And.intro hbl (And.intro hcl hil))))
  have HK := Lib.hid (whole_k lb ib bb cb 0 74 _ rest L 1 1 _ w hl h hc (by simp) hne hbb (by rw [hL]; rfl) (by decide))
  have HL := Lib.hid (And.intro hl (And.intro hL (And.intro g (And.intro hx hy))))
  have c1 := hl.cell 1
  simp only [List.getElem?_cons_zero, List.getElem?_cons_succ] at c1
  have HST := Lib.hid (show ∀ w1 w3 : World, Keeps (fun k => k = ib ∨ k = cb) w w1 → InS w1 ib bb L 2 → Blk w1 cb 74 (.int .u8 1 :: .int .u32 0 :: .int .u32 0 :: .int .u32 0 :: .int .i32 0 :: .int .i32 0 :: cs) → LineS w1 lb ib rest false →
      (w1.alloc (.cells #[.pointer (some ⟨cb, 0, none⟩)] 143)).alloc (.cells #[.func (.func 115) #[] #[.pointer (some ⟨w1.heap.size, 0, none⟩)], .func (.func 117) #[] #[.pointer (some ⟨w1.heap.size, 0, none⟩)], .func (.func 118) #[] #[.pointer (some ⟨w1.heap.size, 0, none⟩)], .func (.func 119) #[] #[.pointer (some ⟨w1.heap.size, 0, none⟩)], .func (.func 121) #[] #[.pointer (some ⟨w1.heap.size, 0, none⟩)]] 195) = w3 →
      Cst w (w3.setCell ⟨lb, 3, none⟩ (.bool false)) lb ib bb cb w1.heap.size (w1.heap.size + 1) rest L 2 (.int .u8 1 :: .int .u32 0 :: .int .u32 0 :: .int .u32 0 :: .int .i32 0 :: .int .i32 0 :: cs) ∧ w3.cell? ⟨lb, 3, none⟩ = some (.bool false) ∧ w3.frozen? ⟨lb, 3, none⟩ = false from fun w1 w3 hk1 hi1 hb1 hl1 hw => by
    have k3 : Keeps (fun _ => False) w1 w3 := by rw [← hw]; (repeat (first | exact Keeps.refl _ _ | assumption | refine Keeps.alloc ?_ _ | refine Keeps.drew ?_))
    have hl3 := hl1.keeps k3 (fun h => h)
    have kl : Keeps (fun k => k = lb) w3 (w3.setCell ⟨lb, 3, none⟩ (.bool false)) := Keeps.setCell (S := fun k => k = lb) (Keeps.refl _ w3) (p := ⟨lb, 3, none⟩) (fun _ => rfl) _
    have e1 : Blk w3 w1.heap.size 143 [.pointer (some ⟨cb, 0, none⟩)] := by rw [← hw]; exact (Blk.new w1 _ _).alloc _
    have e2 : Blk w3 (w1.heap.size + 1) 195 [.func (.func 115) #[] #[.pointer (some ⟨w1.heap.size, 0, none⟩)], .func (.func 117) #[] #[.pointer (some ⟨w1.heap.size, 0, none⟩)], .func (.func 118) #[] #[.pointer (some ⟨w1.heap.size, 0, none⟩)], .func (.func 119) #[] #[.pointer (some ⟨w1.heap.size, 0, none⟩)], .func (.func 121) #[] #[.pointer (some ⟨w1.heap.size, 0, none⟩)]] := by
      have := Blk.new (w1.alloc (.cells #[.pointer (some ⟨cb, 0, none⟩)] 143)) 195 [.func (.func 115) #[] #[.pointer (some ⟨w1.heap.size, 0, none⟩)], .func (.func 117) #[] #[.pointer (some ⟨w1.heap.size, 0, none⟩)], .func (.func 118) #[] #[.pointer (some ⟨w1.heap.size, 0, none⟩)], .func (.func 119) #[] #[.pointer (some ⟨w1.heap.size, 0, none⟩)], .func (.func 121) #[] #[.pointer (some ⟨w1.heap.size, 0, none⟩)]]
      simp only [World.size_alloc] at this
      rw [← hw]; exact this
    have kA : Keeps (fun k => k = ib ∨ k = cb ∨ k = lb) w w1 := hk1.mono (fun _ _ e => e.elim .inl (fun e => .inr (.inl e)))
    exact ⟨⟨(kA.then k3 (fun _ _ h => h.elim)).then kl (fun _ _ e => .inr (.inr e)), hl3.set_ 3 _, (hi1.k0 k3).keeps kl hil hbl, (hb1.keeps k3 (fun h => h)).keeps kl hcl, e1.keeps kl (Blk.ne_ e1 hl3 (by decide)), e2.keeps kl (Blk.ne_ e2 hl3 (by decide))⟩, hl3.cell 3, hl3.frozen 3⟩)
  clear hL h8 hx hy hl h hc hne hbb hbl g hcl hil
  go_enter Tryz.func53, Tryz.ntmps53
  go_wp2_with (first
    | (go_at_call 82; (with_reducible refine HK.out.mono ?_); rintro e w1 ⟨⟨u, rfl⟩, hk1, hi1, hb1⟩; have hl1 := HL.out.1.keeps hk1 (fun e => e.elim (fun e => HN.out.2.2.2.2 e.symm) (fun e => HN.out.2.2.2.1 e.symm)); have c11 := hl1.cell 1; simp only [List.getElem?_cons_zero, List.getElem?_cons_succ] at c11; have H1 := Lib.hid (And.intro hk1 (And.intro hi1 (And.intro hb1 hl1))); clear hk1 hi1 hb1 hl1)
    | (go_at_call 83; (with_reducible refine (fault_t ib bb L _ _ H1.out.2.1).mono ?_); rintro e w2 ⟨rfl, rfl⟩)
    | (go_at_call 84; (with_reducible refine (fields_1 cb _ _ H1.out.2.2.1).mono ?_); rintro e w3 ⟨rfl, hw3⟩; obtain ⟨hs3, d2, d3⟩ := HST.out w1 w3 H1.out.1 H1.out.2.1 H1.out.2.2.1 H1.out.2.2.2 hw3; have H3 := Lib.hid hs3; have d4 := hs3.part; have d5 := hs3.fn 0 _ rfl; have HW3 := Lib.hid hw3; clear hs3 hw3))
  refine wp_loop_rounds 6 ?_
  rw [rounds_succ]
  go_wp2_with (go_at_call 115; refine (field_1 _ lb ib bb cb _ rest L 2 i0 i1 i2 i3 _ _ H3.out.box H3.out.line H3.out.ins H3.out.cmd (by simp) HN.out.1 HN.out.2.1 (by rw [HL.out.2.1]; rfl) (HL.out.2.2.1 i0 (by simp)) (HL.out.2.2.1 i1 (by simp)) (HL.out.2.2.1 i2 (by simp)) (HL.out.2.2.1 i3 (by simp))).mono ?_; rintro e v1 ⟨⟨u1, rfl⟩, hk, hi, hb⟩; have s1 := H3.out.step hk hi hb; have p1 := s1.part; have f1 := s1.fn 1 _ rfl; have S1 := Lib.hid s1; clear hk hi hb s1)
  rw [rounds_succ]
  go_wp2_with (go_at_call 117; refine (field_2 _ lb ib bb cb _ rest L 6 n0 n1 n2 n3 _ _ S1.out.box S1.out.line S1.out.ins S1.out.cmd (by simp) HN.out.1 HN.out.2.1 (by rw [HL.out.2.1]; rfl) (HL.out.2.2.1 n0 (by simp)) (HL.out.2.2.1 n1 (by simp)) (HL.out.2.2.1 n2 (by simp)) (HL.out.2.2.1 n3 (by simp))).mono ?_; rintro e v2 ⟨⟨u2, rfl⟩, hk, hi, hb⟩; have s2 := S1.out.step hk hi hb; have p2 := s2.part; have f2 := s2.fn 2 _ rfl; have S2 := Lib.hid s2; clear hk hi hb s2)
  rw [rounds_succ]
  go_wp2_with (go_at_call 118; refine (field_3 _ lb ib bb cb _ rest L 10 t0 t1 t2 t3 _ _ S2.out.box S2.out.line S2.out.ins S2.out.cmd (by simp) HN.out.1 HN.out.2.1 (by rw [HL.out.2.1]; rfl) (HL.out.2.2.1 t0 (by simp)) (HL.out.2.2.1 t1 (by simp)) (HL.out.2.2.1 t2 (by simp)) (HL.out.2.2.1 t3 (by simp))).mono ?_; rintro e v3 ⟨⟨u3, rfl⟩, hk, hi, hb⟩; have s3 := S2.out.step hk hi hb; have p3 := s3.part; have f3 := s3.fn 3 _ rfl; have S3 := Lib.hid s3; clear hk hi hb s3)
  rw [rounds_succ]
  go_wp2_with (go_at_call 119; refine (field_4 _ lb ib bb cb _ rest L 14 x0 x1 x2 x3 _ x _ S3.out.box S3.out.line S3.out.ins S3.out.cmd (by simp) HN.out.1 HN.out.2.1 (by rw [HL.out.2.1]; rfl) (HL.out.2.2.1 x0 (by simp)) (HL.out.2.2.1 x1 (by simp)) (HL.out.2.2.1 x2 (by simp)) (HL.out.2.2.1 x3 (by simp)) HL.out.2.2.2.1).mono ?_; rintro e v4 ⟨⟨u4, rfl⟩, hk, hi, hb⟩; have s4 := S3.out.step hk hi hb; have p4 := s4.part; have f4 := s4.fn 4 _ rfl; have S4 := Lib.hid s4; clear hk hi hb s4)
  rw [rounds_succ]
  go_wp2_with (go_at_call 121; refine (field_5 _ lb ib bb cb _ rest L 18 y0 y1 y2 y3 _ y _ S4.out.box S4.out.line S4.out.ins S4.out.cmd (by simp) HN.out.1 HN.out.2.1 (by rw [HL.out.2.1]; rfl) (HL.out.2.2.1 y0 (by simp)) (HL.out.2.2.1 y1 (by simp)) (HL.out.2.2.1 y2 (by simp)) (HL.out.2.2.1 y3 (by simp)) HL.out.2.2.2.2).mono ?_; rintro e v5 ⟨⟨u5, rfl⟩, hk, hi, hb⟩; have s5 := S4.out.step hk hi hb; have p5 := s5.part; have S5 := Lib.hid s5; clear hk hi hb s5)
  rw [rounds_succ]
  go_wp2
  go_end0
  exact ⟨⟨_, rfl⟩, S5.out.k, S5.out.line, S5.out.ins, S5.out.cmd⟩
end Wi
end Go.Proofs.YtdaindihobfokaaGreatDoor
