/-
WiJ: fields that are taken off.
-/
import Derived.Test.YtdaindihobfokaaGreatDoorZbbWiHWiI
namespace Go.Proofs.YtdaindihobfokaaGreatDoor
open Go.RowKit
set_option linter.unusedVariables false
set_option linter.unusedSimpArgs false
attribute [local go_sem] Oper.semAt_some
namespace Wi
open Mem
theorem take_u8 (ib bb : Nat) (L : List Nat) (at_ x : Nat) (R : List Nat) (w : World) (h : InS w ib bb L at_) (hd : L.drop at_ = x :: R) (hx : x < 256) : Calls Tryz.prog 80 #[.pointer (some ⟨ib, 0, none⟩)] w fun e w' => e = .returned (.int .u8 (x : Int)) ∧ Keeps (fun k => k = ib) w w' ∧ InS w' ib bb L (at_ + 1) := by
  have hw : IntKind.u8.wrap (x : Int) = (x : Int) := IntWalk.u8_in _ (by omega)
  have HC := Lib.hid (fixed_1 ib bb L at_ x R w h hd hx)
  clear h hd hx
  go_enter Tryz.func80, Tryz.ntmps80
  go_wp2_with (first
    | (go_at_call 112; (with_reducible refine (width_u8 _).mono ?_); rintro e w1 ⟨rfl, rfl⟩)
    | (go_at_call 111; (with_reducible refine HC.out.mono ?_); rintro e w1 ⟨rfl, hk⟩; have HK := Lib.hid hk; clear hk))
  go_ret
  exact ⟨rfl, HK.out⟩
theorem take_k (ib bb : Nat) (L : List Nat) (at_ x : Nat) (R : List Nat) (w : World) (h : InS w ib bb L at_) (hd : L.drop at_ = x :: R) (hx : x < 256) : Calls Tryz.prog 114 #[.pointer (some ⟨ib, 0, none⟩)] w fun e w' => e = .returned (.int .u8 (x : Int)) ∧ Keeps (fun k => k = ib) w w' ∧ InS w' ib bb L (at_ + 1) := by
  have hw : IntKind.u8.wrap (x : Int) = (x : Int) := IntWalk.u8_in _ (by omega)
  have HC := Lib.hid (fixed_1 ib bb L at_ x R w h hd hx)
  clear h hd hx
  go_enter Tryz.func114, Tryz.ntmps114
  go_wp2_with (first
    | (go_at_call 152; (with_reducible refine (width_k _).mono ?_); rintro e w1 ⟨rfl, rfl⟩)
    | (go_at_call 111; (with_reducible refine HC.out.mono ?_); rintro e w1 ⟨rfl, hk⟩; have HK := Lib.hid hk; clear hk))
  go_ret
  exact ⟨rfl, HK.out⟩
theorem un4_lt {a b c d : Nat} (h0 : a < 256) (h1 : b < 256) (h2 : c < 256) (h3 : d < 256) : un4 a b c d < 4294967296 := by unfold un4; omega
theorem take_u32 (ib bb : Nat) (L : List Nat) (at_ x0 x1 x2 x3 : Nat) (R : List Nat) (w : World) (h : InS w ib bb L at_) (hd : L.drop at_ = x0 :: x1 :: x2 :: x3 :: R) (h0 : x0 < 256) (h1 : x1 < 256) (h2 : x2 < 256) (h3 : x3 < 256) : Calls Tryz.prog 154 #[.pointer (some ⟨ib, 0, none⟩)] w fun e w' => e = .returned (.int .u32 (un4 x0 x1 x2 x3 : Int)) ∧ Keeps (fun k => k = ib) w w' ∧ InS w' ib bb L (at_ + 4) := by
  have hw : IntKind.u32.wrap (un4 x0 x1 x2 x3 : Int) = (un4 x0 x1 x2 x3 : Int) := IntWalk.u32_in _ (by have := un4_lt h0 h1 h2 h3; omega)
  have HC := Lib.hid (fixed_4 ib bb L at_ x0 x1 x2 x3 R w h hd h0 h1 h2 h3)
  clear h hd h0 h1 h2 h3
  go_enter Tryz.func154, Tryz.ntmps154
  go_wp2_with (first
    | (go_at_call 197; (with_reducible refine (width_u32 _).mono ?_); rintro e w1 ⟨rfl, rfl⟩)
    | (go_at_call 111; (with_reducible refine HC.out.mono ?_); rintro e w1 ⟨rfl, hk⟩; have HK := Lib.hid hk; clear hk))
  go_ret
  exact ⟨rfl, HK.out⟩
theorem take_i32 (ib bb : Nat) (L : List Nat) (at_ x0 x1 x2 x3 : Nat) (R : List Nat) (v : Int) (w : World) (h : InS w ib bb L at_) (hd : L.drop at_ = x0 :: x1 :: x2 :: x3 :: R) (h0 : x0 < 256) (h1 : x1 < 256) (h2 : x2 < 256) (h3 : x3 < 256) (hv : IntKind.i32.wrap (un4 x0 x1 x2 x3 : Int) = v) : Calls Tryz.prog 156 #[.pointer (some ⟨ib, 0, none⟩)] w fun e w' => e = .returned (.int .i32 v) ∧ Keeps (fun k => k = ib) w w' ∧ InS w' ib bb L (at_ + 4) := by
  have HC := Lib.hid (fixed_4 ib bb L at_ x0 x1 x2 x3 R w h hd h0 h1 h2 h3)
  clear h hd h0 h1 h2 h3
  go_enter Tryz.func156, Tryz.ntmps156
  go_wp2_with (first
    | (go_at_call 198; (with_reducible refine (width_i32 _).mono ?_); rintro e w1 ⟨rfl, rfl⟩)
    | (go_at_call 111; (with_reducible refine HC.out.mono ?_); rintro e w1 ⟨rfl, hk⟩; have HK := Lib.hid hk; clear hk))
  go_ret
  exact ⟨rfl, HK.out⟩
/-- a line that takes. -/
def LineS (w : World) (lb ib : Nat) (rest : Value) (p : Bool) : Prop := Blk w lb 185 [.pointer none, .pointer (some ⟨ib, 0, none⟩), rest, .bool p]
set_option maxHeartbeats 1000000 in
theorem whole_u32 (lb ib bb cb k : Nat) (T : TypeId) (cs : List Value) (rest : Value) (L : List Nat) (at_ x0 x1 x2 x3 : Nat) (R : List Nat) (w : World) (hl : LineS w lb ib rest false) (h : InS w ib bb L at_) (hc : Blk w cb T cs) (hk : k < cs.length) (hne : cb ≠ ib) (hbb : bb ≠ cb) (hd : L.drop at_ = x0 :: x1 :: x2 :: x3 :: R) (h0 : x0 < 256) (h1 : x1 < 256) (h2 : x2 < 256) (h3 : x3 < 256) : Calls Tryz.prog 116 #[.pointer (some ⟨lb, 0, none⟩), .pointer (some ⟨cb, k, none⟩)] w fun e w' => (∃ v, e = .returned v) ∧ Keeps (fun k => k = ib ∨ k = cb) w w' ∧ InS w' ib bb L (at_ + 4) ∧ Blk w' cb T (cs.set k (.int .u32 (un4 x0 x1 x2 x3 : Int))) := by
  have HC := Lib.hid (take_u32 ib bb L at_ x0 x1 x2 x3 R w h hd h0 h1 h2 h3)
  have c0 := hl.cell 0
  have c1 := hl.cell 1
  simp only [List.getElem?_cons_zero, List.getElem?_cons_succ] at c0 c1
  have HB := Lib.hid (And.intro hc (And.intro hk (And.intro hne hbb)))
  clear h hd h0 h1 h2 h3 hl hc hk hne hbb
  go_enter Tryz.func116, Tryz.ntmps116
  go_wp2_with (first
    | (go_at_call 154; (with_reducible refine HC.out.mono ?_); rintro e w1 ⟨rfl, hk⟩; have HK := Lib.hid hk; have ck := (HB.out.1.keeps hk.1 HB.out.2.2.1).cell k; have fk := (HB.out.1.keeps hk.1 HB.out.2.2.1).frozen k; rw [List.getElem?_eq_getElem HB.out.2.1] at ck; clear hk))
  go_end0
  obtain ⟨hc, hk, hne, hbb⟩ := HB.out
  have kc : Keeps (fun k => k = cb) w1 (w1.setCell ⟨cb, k, none⟩ (.int .u32 (un4 x0 x1 x2 x3 : Int))) := Keeps.setCell (S := fun k => k = cb) (Keeps.refl _ w1) (p := ⟨cb, k, none⟩) (fun _ => rfl) _
  exact ⟨⟨_, rfl⟩, (HK.out.1.mono (fun _ _ e => .inl e)).then kc (fun _ _ e => .inr e), HK.out.2.keeps kc (fun e => hne e.symm) hbb, (hc.keeps HK.out.1 hne).set_ k _⟩
set_option maxHeartbeats 1000000 in
theorem whole_k (lb ib bb cb k : Nat) (T : TypeId) (cs : List Value) (rest : Value) (L : List Nat) (at_ x0 : Nat) (R : List Nat) (w : World) (hl : LineS w lb ib rest false) (h : InS w ib bb L at_) (hc : Blk w cb T cs) (hk : k < cs.length) (hne : cb ≠ ib) (hbb : bb ≠ cb) (hd : L.drop at_ = x0 :: R) (h0 : x0 < 256) : Calls Tryz.prog 82 #[.pointer (some ⟨lb, 0, none⟩), .pointer (some ⟨cb, k, none⟩)] w fun e w' => (∃ v, e = .returned v) ∧ Keeps (fun k => k = ib ∨ k = cb) w w' ∧ InS w' ib bb L (at_ + 1) ∧ Blk w' cb T (cs.set k (.int .u8 (x0 : Int))) := by
  have HC := Lib.hid (take_k ib bb L at_ x0 R w h hd h0)
  have c0 := hl.cell 0
  have c1 := hl.cell 1
  simp only [List.getElem?_cons_zero, List.getElem?_cons_succ] at c0 c1
  have HB := Lib.hid (And.intro hc (And.intro hk (And.intro hne hbb)))
  clear h hd h0 hl hc hk hne hbb
  go_enter Tryz.func82, Tryz.ntmps82
  go_wp2_with (first
    | (go_at_call 114; (with_reducible refine HC.out.mono ?_); rintro e w1 ⟨rfl, hk⟩; have HK := Lib.hid hk; have ck := (HB.out.1.keeps hk.1 HB.out.2.2.1).cell k; have fk := (HB.out.1.keeps hk.1 HB.out.2.2.1).frozen k; rw [List.getElem?_eq_getElem HB.out.2.1] at ck; clear hk))
  go_end0
  obtain ⟨hc, hk, hne, hbb⟩ := HB.out
  have kc : Keeps (fun k => k = cb) w1 (w1.setCell ⟨cb, k, none⟩ (.int .u8 (x0 : Int))) := Keeps.setCell (S := fun k => k = cb) (Keeps.refl _ w1) (p := ⟨cb, k, none⟩) (fun _ => rfl) _
  exact ⟨⟨_, rfl⟩, (HK.out.1.mono (fun _ _ e => .inl e)).then kc (fun _ _ e => .inr e), HK.out.2.keeps kc (fun e => hne e.symm) hbb, (hc.keeps HK.out.1 hne).set_ k _⟩
set_option maxHeartbeats 1000000 in
theorem whole_i32 (lb ib bb cb k : Nat) (T : TypeId) (cs : List Value) (rest : Value) (L : List Nat) (at_ x0 x1 x2 x3 : Nat) (R : List Nat) (v : Int) (w : World) (hl : LineS w lb ib rest false) (h : InS w ib bb L at_) (hc : Blk w cb T cs) (hk : k < cs.length) (hne : cb ≠ ib) (hbb : bb ≠ cb) (hd : L.drop at_ = x0 :: x1 :: x2 :: x3 :: R) (h0 : x0 < 256) (h1 : x1 < 256) (h2 : x2 < 256) (h3 : x3 < 256) (hv : IntKind.i32.wrap (un4 x0 x1 x2 x3 : Int) = v) : Calls Tryz.prog 120 #[.pointer (some ⟨lb, 0, none⟩), .pointer (some ⟨cb, k, none⟩)] w fun e w' => (∃ v, e = .returned v) ∧ Keeps (fun k => k = ib ∨ k = cb) w w' ∧ InS w' ib bb L (at_ + 4) ∧ Blk w' cb T (cs.set k (.int .i32 v)) := by
  have HC := Lib.hid (take_i32 ib bb L at_ x0 x1 x2 x3 R v w h hd h0 h1 h2 h3 hv)
  have c0 := hl.cell 0
  have c1 := hl.cell 1
  simp only [List.getElem?_cons_zero, List.getElem?_cons_succ] at c0 c1
  have HB := Lib.hid (And.intro hc (And.intro hk (And.intro hne hbb)))
  clear h hd h0 h1 h2 h3 hv hl hc hk hne hbb
  go_enter Tryz.func120, Tryz.ntmps120
  go_wp2_with (first
    | (go_at_call 156; (with_reducible refine HC.out.mono ?_); rintro e w1 ⟨rfl, hk⟩; have HK := Lib.hid hk; have ck := (HB.out.1.keeps hk.1 HB.out.2.2.1).cell k; have fk := (HB.out.1.keeps hk.1 HB.out.2.2.1).frozen k; rw [List.getElem?_eq_getElem HB.out.2.1] at ck; clear hk))
  go_end0
  obtain ⟨hc, hk, hne, hbb⟩ := HB.out
  have kc : Keeps (fun k => k = cb) w1 (w1.setCell ⟨cb, k, none⟩ (.int .i32 v)) := Keeps.setCell (S := fun k => k = cb) (Keeps.refl _ w1) (p := ⟨cb, k, none⟩) (fun _ => rfl) _
  exact ⟨⟨_, rfl⟩, (HK.out.1.mono (fun _ _ e => .inl e)).then kc (fun _ _ e => .inr e), HK.out.2.keeps kc (fun e => hne e.symm) hbb, (hc.keeps HK.out.1 hne).set_ k _⟩
theorem field_1 (pb lb ib bb cb : Nat) (cs : List Value) (rest : Value) (L : List Nat) (at_ x0 x1 x2 x3 : Nat) (R : List Nat) (w : World) (hp : Blk w pb 143 [.pointer (some ⟨cb, 0, none⟩)]) (hl : LineS w lb ib rest false) (h : InS w ib bb L at_) (hc : Blk w cb 74 cs) (hk : 1 < cs.length) (hne : cb ≠ ib) (hbb : bb ≠ cb) (hd : L.drop at_ = x0 :: x1 :: x2 :: x3 :: R) (h0 : x0 < 256) (h1 : x1 < 256) (h2 : x2 < 256) (h3 : x3 < 256) : Calls Tryz.prog 115 #[.pointer (some ⟨lb, 0, none⟩), .pointer (some ⟨pb, 0, none⟩)] w fun e w' => (∃ v, e = .returned v) ∧ Keeps (fun k => k = ib ∨ k = cb) w w' ∧ InS w' ib bb L (at_ + 4) ∧ Blk w' cb 74 (cs.set 1 (.int .u32 (un4 x0 x1 x2 x3 : Int))) := by
  have HC := Lib.hid (whole_u32 lb ib bb cb 1 74 cs rest L at_ x0 x1 x2 x3 R w hl h hc hk hne hbb hd h0 h1 h2 h3)
  have c0 := hp.cell 0
  simp only [List.getElem?_cons_zero] at c0
  clear hp hl h hc hk hne hbb hd h0 h1 h2 h3
  go_enter Tryz.func115, Tryz.ntmps115
  go_wp2_with (go_at_call 116; (with_reducible refine HC.out.mono ?_); rintro e w1 ⟨⟨u, rfl⟩, hk⟩; have HK := Lib.hid hk; clear hk)
  go_end0
  exact ⟨⟨_, rfl⟩, HK.out⟩
theorem field_2 (pb lb ib bb cb : Nat) (cs : List Value) (rest : Value) (L : List Nat) (at_ x0 x1 x2 x3 : Nat) (R : List Nat) (w : World) (hp : Blk w pb 143 [.pointer (some ⟨cb, 0, none⟩)]) (hl : LineS w lb ib rest false) (h : InS w ib bb L at_) (hc : Blk w cb 74 cs) (hk : 2 < cs.length) (hne : cb ≠ ib) (hbb : bb ≠ cb) (hd : L.drop at_ = x0 :: x1 :: x2 :: x3 :: R) (h0 : x0 < 256) (h1 : x1 < 256) (h2 : x2 < 256) (h3 : x3 < 256) : Calls Tryz.prog 117 #[.pointer (some ⟨lb, 0, none⟩), .pointer (some ⟨pb, 0, none⟩)] w fun e w' => (∃ v, e = .returned v) ∧ Keeps (fun k => k = ib ∨ k = cb) w w' ∧ InS w' ib bb L (at_ + 4) ∧ Blk w' cb 74 (cs.set 2 (.int .u32 (un4 x0 x1 x2 x3 : Int))) := by
  have HC := Lib.hid (whole_u32 lb ib bb cb 2 74 cs rest L at_ x0 x1 x2 x3 R w hl h hc hk hne hbb hd h0 h1 h2 h3)
  have c0 := hp.cell 0
  simp only [List.getElem?_cons_zero] at c0
  clear hp hl h hc hk hne hbb hd h0 h1 h2 h3
  go_enter Tryz.func117, Tryz.ntmps117
  go_wp2_with (go_at_call 116; (with_reducible refine HC.out.mono ?_); rintro e w1 ⟨⟨u, rfl⟩, hk⟩; have HK := Lib.hid hk; clear hk)
  go_end0
  exact ⟨⟨_, rfl⟩, HK.out⟩
theorem field_3 (pb lb ib bb cb : Nat) (cs : List Value) (rest : Value) (L : List Nat) (at_ x0 x1 x2 x3 : Nat) (R : List Nat) (w : World) (hp : Blk w pb 143 [.pointer (some ⟨cb, 0, none⟩)]) (hl : LineS w lb ib rest false) (h : InS w ib bb L at_) (hc : Blk w cb 74 cs) (hk : 3 < cs.length) (hne : cb ≠ ib) (hbb : bb ≠ cb) (hd : L.drop at_ = x0 :: x1 :: x2 :: x3 :: R) (h0 : x0 < 256) (h1 : x1 < 256) (h2 : x2 < 256) (h3 : x3 < 256) : Calls Tryz.prog 118 #[.pointer (some ⟨lb, 0, none⟩), .pointer (some ⟨pb, 0, none⟩)] w fun e w' => (∃ v, e = .returned v) ∧ Keeps (fun k => k = ib ∨ k = cb) w w' ∧ InS w' ib bb L (at_ + 4) ∧ Blk w' cb 74 (cs.set 3 (.int .u32 (un4 x0 x1 x2 x3 : Int))) := by
  have HC := Lib.hid (whole_u32 lb ib bb cb 3 74 cs rest L at_ x0 x1 x2 x3 R w hl h hc hk hne hbb hd h0 h1 h2 h3)
  have c0 := hp.cell 0
  simp only [List.getElem?_cons_zero] at c0
  clear hp hl h hc hk hne hbb hd h0 h1 h2 h3
  go_enter Tryz.func118, Tryz.ntmps118
  go_wp2_with (go_at_call 116; (with_reducible refine HC.out.mono ?_); rintro e w1 ⟨⟨u, rfl⟩, hk⟩; have HK := Lib.hid hk; clear hk)
  go_end0
  exact ⟨⟨_, rfl⟩, HK.out⟩
theorem field_4 (pb lb ib bb cb : Nat) (cs : List Value) (rest : Value) (L : List Nat) (at_ x0 x1 x2 x3 : Nat) (R : List Nat) (v : Int) (w : World) (hp : Blk w pb 143 [.pointer (some ⟨cb, 0, none⟩)]) (hl : LineS w lb ib rest false) (h : InS w ib bb L at_) (hc : Blk w cb 74 cs) (hk : 4 < cs.length) (hne : cb ≠ ib) (hbb : bb ≠ cb) (hd : L.drop at_ = x0 :: x1 :: x2 :: x3 :: R) (h0 : x0 < 256) (h1 : x1 < 256) (h2 : x2 < 256) (h3 : x3 < 256) (hv : IntKind.i32.wrap (un4 x0 x1 x2 x3 : Int) = v) : Calls Tryz.prog 119 #[.pointer (some ⟨lb, 0, none⟩), .pointer (some ⟨pb, 0, none⟩)] w fun e w' => (∃ v, e = .returned v) ∧ Keeps (fun k => k = ib ∨ k = cb) w w' ∧ InS w' ib bb L (at_ + 4) ∧ Blk w' cb 74 (cs.set 4 (.int .i32 v)) := by
  have HC := Lib.hid (whole_i32 lb ib bb cb 4 74 cs rest L at_ x0 x1 x2 x3 R v w hl h hc hk hne hbb hd h0 h1 h2 h3 hv)
  have c0 := hp.cell 0
  simp only [List.getElem?_cons_zero] at c0
  clear hp hl h hc hk hne hbb hd h0 h1 h2 h3 hv
  go_enter Tryz.func119, Tryz.ntmps119
  go_wp2_with (go_at_call 120; (with_reducible refine HC.out.mono ?_); rintro e w1 ⟨⟨u, rfl⟩, hk⟩; have HK := Lib.hid hk; clear hk)
  go_end0
  exact ⟨⟨_, rfl⟩, HK.out⟩
theorem field_5 (pb lb ib bb cb : Nat) (cs : List Value) (rest : Value) (L : List Nat) (at_ x0 x1 x2 x3 : Nat) (R : List Nat) (v : Int) (w : World) (hp : Blk w pb 143 [.pointer (some ⟨cb, 0, none⟩)]) (hl : LineS w lb ib rest false) (h : InS w ib bb L at_) (hc : Blk w cb 74 cs) (hk : 5 < cs.length) (hne : cb ≠ ib) (hbb : bb ≠ cb) (hd : L.drop at_ = x0 :: x1 :: x2 :: x3 :: R) (h0 : x0 < 256) (h1 : x1 < 256) (h2 : x2 < 256) (h3 : x3 < 256) (hv : IntKind.i32.wrap (un4 x0 x1 x2 x3 : Int) = v) : Calls Tryz.prog 121 #[.pointer (some ⟨lb, 0, none⟩), .pointer (some ⟨pb, 0, none⟩)] w fun e w' => (∃ v, e = .returned v) ∧ Keeps (fun k => k = ib ∨ k = cb) w w' ∧ InS w' ib bb L (at_ + 4) ∧ Blk w' cb 74 (cs.set 5 (.int .i32 v)) := by
  have HC := Lib.hid (whole_i32 lb ib bb cb 5 74 cs rest L at_ x0 x1 x2 x3 R v w hl h hc hk hne hbb hd h0 h1 h2 h3 hv)
  have c0 := hp.cell 0
  simp only [List.getElem?_cons_zero] at c0
  clear hp hl h hc hk hne hbb hd h0 h1 h2 h3 hv
  go_enter Tryz.func121, Tryz.ntmps121
  go_wp2_with (go_at_call 120; (with_reducible refine HC.out.mono ?_); rintro e w1 ⟨⟨u, rfl⟩, hk⟩; have HK := Lib.hid hk; clear hk)
  go_end0
  exact ⟨⟨_, rfl⟩, HK.out⟩
end Wi
end Go.Proofs.YtdaindihobfokaaGreatDoor
