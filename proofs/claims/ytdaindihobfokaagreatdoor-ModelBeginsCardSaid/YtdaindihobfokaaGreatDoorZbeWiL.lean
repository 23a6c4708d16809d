/-
WiL: a frame of an update is read.
-/
import Derived.Test.YtdaindihobfokaaGreatDoorZbdWiK
namespace Go.Proofs.YtdaindihobfokaaGreatDoor
open Go.RowKit
set_option linter.unusedVariables false
set_option linter.unusedSimpArgs false
attribute [local go_sem] Oper.semAt_some
namespace Wi
open Mem
theorem InS.lt {w : World} {ib bb : Nat} {L : List Nat} {at_ : Nat} (h : InS w ib bb L at_) : ib < w.heap.size := by obtain ⟨_, _, hb, _⟩ := h; exact hb.lt
theorem Own.form {w : World} {base : Nat} {a : Option Addr} {c x : Nat} {L : List Nat} (h : Own w base a c (x :: L)) : ∃ g, a = some ⟨g, 0, none⟩ ∧ base ≤ g ∧ g < w.heap.size ∧ (x :: L).length ≤ c := by
  rcases h.2 with ⟨he, hn⟩ | ⟨g, cap, cur, he, hb, hg, h1, h2⟩
  · injection he with e1 e2; simp at e2
  · injection he with e1 e2 e3
    subst e1; subst e3
    exact ⟨g, rfl, hb, (Array.getElem?_eq_some_iff.1 hg).1, h1⟩
set_option maxHeartbeats 1000000 in
set_option maxRecDepth 20000 in
theorem readin_t (n x : Nat) (X : List Nat) (hn : n = (x :: X).length) (b off ca : Nat) (w : World) (hB : Bys w (some ⟨b, off, none⟩) (x :: X)) (hl : n ≤ 1000000) : Calls Tryz.prog 79 #[.slice (some ⟨b, off, none⟩) n ca] w fun e w' => ∃ ib bb, e = .returned (.pointer (some ⟨ib, 0, none⟩)) ∧ Keeps (fun _ => False) w w' ∧ InS w' ib bb (x :: X) 0 ∧ w.heap.size ≤ ib ∧ w.heap.size ≤ bb ∧ bb < w'.heap.size := by
  have HC := Lib.hid (clone_t n (x :: X) hn (some ⟨b, off, none⟩) ca w hB (fun p e => by injection e with e; exact ⟨_, _, e.symm⟩) hl)
  have HN := Lib.hid (And.intro hn hl)
  clear hB hn hl
  go_enter Tryz.func79, Tryz.ntmps79
  go_wp2_with (go_at_call 110; (with_reducible refine HC.out.mono ?_); rintro e w1 ⟨a, c, rfl, hk, ho⟩; have HO := Lib.hid (And.intro hk ho); clear hk ho)
  go_ret
  obtain ⟨hk, ho⟩ := HO.out
  obtain ⟨g, rfl, hg1, hg2, hg3⟩ := ho.form
  have kb : Keeps (fun _ => False) w1 (w1.alloc (.cells #[.slice (some ⟨g, 0, none⟩) n c, .int .i64 0, .int .i64 0] 248)) := by (repeat (first | exact Keeps.refl _ _ | assumption | refine Keeps.alloc ?_ _ | refine Keeps.drew ?_))
  have hb := Blk.new w1 248 [.slice (some ⟨g, 0, none⟩) n c, .int .i64 0, .int .i64 0]
  rw [HN.out.1] at hb
  refine ⟨w1.heap.size, g, rfl, hk.trans kb, ⟨0, c, ?_, ho.bys.keeps kb (far_none _), by omega, Nat.zero_le _, hg3, by have := HN.out; omega⟩, hk.size, hg1, by simp; omega⟩
  rw [HN.out.1]
  exact hb
/-- what is asked of a frame of an update. -/
structure UpF (i0 i1 i2 i3 n0 n1 n2 n3 t0 t1 t2 t3 x0 x1 x2 x3 y0 y1 y2 y3 b4 b5 b6 b7 : Nat) (x y : Int) : Prop where
  lt : ∀ z ∈ ([1, 1, i0, i1, i2, i3, n0, n1, n2, n3, t0, t1, t2, t3, x0, x1, x2, x3, y0, y1, y2, y3] : List Nat), z < 256
  lt2 : b4 < 256 ∧ b5 < 256 ∧ b6 < 256 ∧ b7 < 256
  hx : IntKind.i32.wrap (un4 x0 x1 x2 x3 : Int) = x
  hy : IntKind.i32.wrap (un4 y0 y1 y2 y3 : Int) = y
  crc : crcOf (80 :: 100 :: 22 :: 0 :: [1, 1, i0, i1, i2, i3, n0, n1, n2, n3, t0, t1, t2, t3, x0, x1, x2, x3, y0, y1, y2, y3]) = un4 b4 b5 b6 b7
theorem rc1_t (lb cb : Nat) (w : World) (Q : World → Prop) (h : Calls Tryz.prog 53 #[.pointer (some ⟨lb, 0, none⟩), .pointer (some ⟨cb, 0, none⟩)] w fun e w' => (∃ v, e = .returned v) ∧ Q w') : Calls Tryz.prog 52 #[.pointer (some ⟨lb, 0, none⟩), .pointer (some ⟨cb, 0, none⟩)] w fun e w' => (∃ v, e = .returned v) ∧ Q w' := by
  have H := Lib.hid h
  clear h
  go_enter Tryz.func52, Tryz.ntmps52
  go_wp2_with (go_at_call 53; refine H.out.mono ?_; rintro e w1 ⟨⟨u, rfl⟩, hk⟩; have HK := Lib.hid hk; clear hk)
  go_end0
  exact ⟨⟨_, rfl⟩, HK.out⟩
set_option maxHeartbeats 4000000 in
set_option maxRecDepth 20000 in
theorem fread_t (i0 i1 i2 i3 n0 n1 n2 n3 t0 t1 t2 t3 x0 x1 x2 x3 y0 y1 y2 y3 b4 b5 b6 b7 : Nat) (x y : Int) (hf : UpF i0 i1 i2 i3 n0 n1 n2 n3 t0 t1 t2 t3 x0 x1 x2 x3 y0 y1 y2 y3 b4 b5 b6 b7 x y) (b off ca cb : Nat) (w : World) (hB : Bys w (some ⟨b, off, none⟩) (80 :: 100 :: 22 :: 0 :: b4 :: b5 :: b6 :: b7 :: [1, 1, i0, i1, i2, i3, n0, n1, n2, n3, t0, t1, t2, t3, x0, x1, x2, x3, y0, y1, y2, y3])) (hca : 30 ≤ ca) (cs : List Value) (hc : Blk w cb 74 (.int .u8 0 :: .int .u32 0 :: .int .u32 0 :: .int .u32 0 :: .int .i32 0 :: .int .i32 0 :: cs)) :
    Calls Tryz.prog 51 #[.slice (some ⟨b, off, none⟩) 30 ca, .int .u8 1, .func (.func 52) #[] #[.pointer (some ⟨cb, 0, none⟩)]] w fun e w' => e = .returned (.int .i64 0) ∧ Keeps (fun k => k = cb) w w' ∧ Blk w' cb 74 (.int .u8 1 :: .int .u32 (un4 i0 i1 i2 i3 : Int) :: .int .u32 (un4 n0 n1 n2 n3 : Int) :: .int .u32 (un4 t0 t1 t2 t3 : Int) :: .int .i32 x :: .int .i32 y :: cs) := by
  have HOp := Lib.hid (open_t 22 0 b4 b5 b6 b7 [1, 1, i0, i1, i2, i3, n0, n1, n2, n3, t0, t1, t2, t3, x0, x1, x2, x3, y0, y1, y2, y3] 30 rfl rfl (by simp) b off ca w hB (fun z hz => by
    obtain ⟨l4, l5, l6, l7⟩ := hf.lt2
    have := hf.lt
    simp only [List.mem_cons] at hz
    rcases hz with rfl | rfl | rfl | rfl | rfl | rfl | rfl | rfl | hz
    all_goals first | omega | exact hf.lt z (by simpa using hz)) hca hf.crc)
  have HC := Lib.hid (And.intro hc hc.lt)
  have HNE := Lib.hid (show ∀ k z : Nat, w.heap.size ≤ k → cb ≠ k from fun k _ h => by have := hc.lt; omega)
  have HF := Lib.hid hf
  clear hB hc hca hf
  obtain ⟨LT, hLT⟩ : ∃ LT, LT = [1, i0, i1, i2, i3, n0, n1, n2, n3, t0, t1, t2, t3, x0, x1, x2, x3, y0, y1, y2, y3] := ⟨_, rfl⟩
  rw [← hLT] at HOp
  have hlen : LT.length = 21 := by rw [hLT]; rfl
  have hlen2 : (1 :: LT).length = 22 := by rw [hLT]; rfl
  rw [hlen2] at HOp
  have HLL := Lib.hid (And.intro hLT (And.intro hlen hlen2))
  have HCM := Lib.hid (fun lb ib bb rest W => command_t lb ib bb cb rest (1 :: LT) i0 i1 i2 i3 n0 n1 n2 n3 t0 t1 t2 t3 x0 x1 x2 x3 y0 y1 y2 y3 x y W (by rw [hLT]) (by rw [hLT]; exact HF.out.lt) HF.out.hx HF.out.hy)
  clear hLT hlen hlen2
  go_enter Tryz.func51, Tryz.ntmps51
  go_wp2_with (first
    | (go_at_call 78; (with_reducible refine HOp.out.mono ?_); rintro e w1 ⟨a, c, m, rfl, rfl, hk1, ho1⟩; obtain ⟨g, rfl, hg1, hg2, hg3⟩ := ho1.form; have hy1 := ho1.bys; have d0 := hy1.get 0 1 rfl; rw [Nat.add_zero] at d0; have H1 := Lib.hid (And.intro hk1 (And.intro hy1 (And.intro hg1 hg2))); clear hk1 ho1 hg1 hg2 hg3 hy1)
    | (go_at_call 79; refine (readin_t 22 1 LT HLL.out.2.2.symm g 0 c w1 H1.out.2.1 (by decide)).mono ?_; rintro e w2 ⟨ib, bb, rfl, hk2, hi2, hib, hbb⟩; have H2 := Lib.hid (And.intro (H1.out.1.trans hk2) (And.intro hi2 (And.intro (Nat.le_trans H1.out.1.size hib) (And.intro (Nat.le_trans H1.out.1.size hbb.1) hbb.2)))); have hl2 := Blk.new w2 185 [.pointer none, .pointer (some ⟨ib, 0, none⟩), .slice (some ⟨g, 0, none⟩) 22 c, .bool false]; have d2 := hl2.cell 1; have d3 := hl2.cell 3; simp only [List.getElem?_cons_zero, List.getElem?_cons_succ] at d2 d3; have HL2 := Lib.hid hl2; clear hk2 hi2 hib hbb hl2 d0)
    | (go_at_call 80; refine (take_u8 ib bb (1 :: LT) 0 1 LT _ (H2.out.2.1.k0 (by (repeat (first | exact Keeps.refl _ _ | assumption | refine Keeps.alloc ?_ _ | refine Keeps.drew ?_)))) rfl (by decide)).mono ?_; rintro e w3 ⟨rfl, hk3, hi3⟩; have hl3 := HL2.out.keeps hk3 (fun e => absurd H2.out.2.1.lt (by omega)); have e1 := hl3.cell 1; have e3 := hl3.cell 3; simp only [List.getElem?_cons_zero, List.getElem?_cons_succ] at e1 e3; have H3 := Lib.hid (And.intro hk3 (And.intro hi3 hl3)); clear hk3 hi3 hl3 d2 d3)
    | (go_at_call 52; refine (rc1_t w2.heap.size cb w3 _ (HCM.out w2.heap.size ib bb _ w3 H3.out.2.2 H3.out.2.1 cs (((HC.out.1.keeps H2.out.1 (fun h => h)).alloc _).keeps H3.out.1 (HNE.out _ 0 H2.out.2.2.1)) (HNE.out _ 0 H2.out.2.2.1) (fun e => HNE.out _ 0 H2.out.2.2.2.1 e.symm) (Nat.ne_of_lt H2.out.2.2.2.2))).mono ?_; rintro e w4 ⟨⟨u, rfl⟩, hk4, hl4, hi4, hb4⟩; have f1 := hl4.cell 1; have f3 := hl4.cell 3; simp only [List.getElem?_cons_zero, List.getElem?_cons_succ] at f1 f3; have H4 := Lib.hid (And.intro hk4 (And.intro hi4 hb4)); clear hk4 hl4 hi4 hb4 e1 e3)
    | (go_at_call 81; refine (end_t ib bb (1 :: LT) w4 (by rw [HLL.out.2.2]; exact H4.out.2.1)).mono ?_; rintro e w5 ⟨rfl, hk5⟩; have H5 := Lib.hid hk5; clear hk5))
  go_ret
  obtain ⟨hk4, hi4, hb4⟩ := H4.out
  refine ⟨rfl, ?_, hb4.keeps H5.out (fun h => h)⟩
  have q1 := H2.out.2.2.1
  have q2 := H2.out.1.size
  have k1 : Keeps (fun k => k = cb) w w2 := H2.out.1.mono (fun _ _ h => h.elim)
  have k2 := (k1.alloc (.cells #[.pointer none, .pointer (some ⟨ib, 0, none⟩), .slice (some ⟨g, 0, none⟩) 22 c, .bool false] 185)).then H3.out.1 (fun i hi e => by omega)
  exact (k2.then hk4 (fun i hi e => by omega)).then H5.out (fun _ _ h => h.elim)
abbrev zcs : List Value := [.int .u32 0, .int .u8 0, .slice none 0 0, .slice none 0 0, .int .i32 0, .string ⟨#[]⟩]
abbrev zcmd : List Value := .int .u8 0 :: .int .u32 0 :: .int .u32 0 :: .int .u32 0 :: .int .i32 0 :: .int .i32 0 :: zcs
theorem cmd_info : (Tryz.prog.info? 74).map (·.size) = some 12 := by kernel_rfl
/-- an update -/
abbrev upd (id nu ti : Nat) (x y : Int) : List Value := .int .u8 1 :: .int .u32 (id : Int) :: .int .u32 (nu : Int) :: .int .u32 (ti : Int) :: .int .i32 x :: .int .i32 y :: zcs
theorem take_all (l : List Value) : (l.drop 0).take l.length = l := by rw [List.drop_zero, List.take_length]
theorem upd_info (id nu ti : Nat) (x y : Int) : (Tryz.prog.info? 74).map (·.size) = some (upd id nu ti x y).length := cmd_info
theorem upd_info' (id nu ti : Nat) (x y : Int) : (Tryz.prog.info? 74).map (·.size) = some (upd id nu ti x y).toArray.size := cmd_info
theorem upd_fit (id nu ti : Nat) (x y : Int) : 0 + (upd id nu ti x y).toArray.size ≤ zcmd.length := by simp
theorem upd_one (id nu ti : Nat) (x y : Int) : (upd id nu ti x y).toArray.all (·.oneCell') = true := by simp [Value.oneCell']
set_option maxHeartbeats 4000000 in
set_option maxRecDepth 20000 in
theorem readc_t (i0 i1 i2 i3 n0 n1 n2 n3 t0 t1 t2 t3 x0 x1 x2 x3 y0 y1 y2 y3 b4 b5 b6 b7 : Nat) (x y : Int) (hf : UpF i0 i1 i2 i3 n0 n1 n2 n3 t0 t1 t2 t3 x0 x1 x2 x3 y0 y1 y2 y3 b4 b5 b6 b7 x y) (b off ca : Nat) (w : World) (hB : Bys w (some ⟨b, off, none⟩) (80 :: 100 :: 22 :: 0 :: b4 :: b5 :: b6 :: b7 :: [1, 1, i0, i1, i2, i3, n0, n1, n2, n3, t0, t1, t2, t3, x0, x1, x2, x3, y0, y1, y2, y3])) (hca : 30 ≤ ca) :
    Calls Tryz.prog 31 #[.slice (some ⟨b, off, none⟩) 30 ca] w fun e w' => e = .returned (.tuple #[.agg (upd (un4 i0 i1 i2 i3) (un4 n0 n1 n2 n3) (un4 t0 t1 t2 t3) x y).toArray, .int .i64 0]) ∧ Keeps (fun _ => False) w w' := by
  have hk0 : Keeps (fun _ => False) w ((w.alloc (.cells zcmd.toArray 74)).alloc (.cells zcmd.toArray 74)) := by (repeat (first | exact Keeps.refl _ _ | assumption | refine Keeps.alloc ?_ _ | refine Keeps.drew ?_))
  have hb0 := (Blk.new w 74 zcmd).alloc (.cells zcmd.toArray 74)
  have hb1 := Blk.new (w.alloc (.cells zcmd.toArray 74)) 74 zcmd
  simp only [World.size_alloc] at hb1
  have HF := Lib.hid (fread_t i0 i1 i2 i3 n0 n1 n2 n3 t0 t1 t2 t3 x0 x1 x2 x3 y0 y1 y2 y3 b4 b5 b6 b7 x y hf b off ca (w.heap.size + 1) _ (hB.keeps hk0 (far_none _)) hca zcs hb1)
  have H0 := Lib.hid (And.intro hk0 hb0)
  clear hB hf hca hb0 hb1 hk0
  go_enter Tryz.func31, Tryz.ntmps31
  go_wp2_with (first
    | (go_at_call 51; refine HF.out.mono ?_; rintro e w1 ⟨rfl, hk1, hb1⟩; have H1 := Lib.hid (And.intro hk1 (And.intro hb1 (H0.out.2.keeps hk1 (by omega)))); clear hk1 hb1)
    | (with_reducible refine wpList_load_blk rfl 74 (.tmp 4) rfl (w.heap.size + 1) 0 74 _ (upd (un4 i0 i1 i2 i3) (un4 n0 n1 n2 n3) (un4 t0 t1 t2 t3) x y) _ rfl H1.out.2.1 (take_all _) Tryz.underlying74 rfl (upd_info _ _ _ _ _) ?_)
    | (with_reducible refine wpList_store_blk rfl 74 (.tmp 2) (.tmp 13) rfl w.heap.size 0 74 zcmd (upd (un4 i0 i1 i2 i3) (un4 n0 n1 n2 n3) (un4 t0 t1 t2 t3) x y).toArray rfl rfl H1.out.2.2 (upd_fit _ _ _ _ _) (upd_info' _ _ _ _ _) (upd_one _ _ _ _ _) ?_; intro w3 hb3 hg3 hz3; have H3 := Lib.hid (And.intro hb3 hg3); clear hb3 hg3 hz3))
  obtain ⟨hb3, hg3⟩ := H3.out
  have hb4 : Blk w3 w.heap.size 74 (upd (un4 i0 i1 i2 i3) (un4 n0 n1 n2 n3) (un4 t0 t1 t2 t3) x y) := hb3
  refine bodyPost_ret (results_row_tmp rfl _ _ _ _ _ _ _ rfl hb4 Tryz.underlying74 rfl cmd_info) rfl ?_
  refine ⟨rfl, ?_⟩
  exact (H0.out.1.then H1.out.1 (fun i hi e => by omega)).grown hg3 (fun k hk e => by injection e with e; omega)
end Wi
end Go.Proofs.YtdaindihobfokaaGreatDoor
