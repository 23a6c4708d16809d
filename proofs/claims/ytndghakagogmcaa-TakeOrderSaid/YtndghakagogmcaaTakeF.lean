/-
  the closure of TakeOrder.
-/
import Derived.Test.YtndghakagogmcaaTakeE
namespace Go.Proofs.Ytndghakagogmcaa
open Go.RowKit
set_option linter.unusedVariables false
namespace Take
open Mem
def pkt (k : Nat) : Pk := { zpk with number := k, object := k }
def OS (base : Nat) (w : World) (TB AB LB WB tb rb n nx : Nat) (rs : Ring) (all : List Pk) (a : Option Addr) (c : Nat) : Prop :=
  Blk w TB 24 [.pointer (some ⟨tb, 0, none⟩)] ∧ Blk w AB 28 [.slice a all.length c] ∧ Blk w LB 29 [.int .u64 ((nx : Int) - 1)] ∧ Blk w WB 3 [.int .i64 (n : Int)] ∧
  Blk w tb 93 [.int .u64 (nx : Int), .slice (some ⟨rb, 0, none⟩) rs.length rs.length] ∧ Blk w rb 90 (ring rs) ∧
  w.ownsRow base 40 11 (.slice a all.length c) all.length (pks all) ∧ base ≤ TB ∧ base ≤ AB ∧ base ≤ LB ∧ base ≤ tb ∧ base ≤ rb
def TakePost (base : Nat) (w : World) (TB AB LB WB tb rb n nx1 : Nat) (rs1 : Ring) (all1 : List Pk) (e : Ending) (w' : World) : Prop :=
  e = .returned (.bool true) ∧ (∃ a c, OS base w' TB AB LB WB tb rb n nx1 rs1 all1 a c) ∧ Below base w w'
def ArrTo (w : World) (tb rb nx : Nat) (rs : Ring) (o : List Pk) (e : Ending) (w' : World) : Prop :=
  ∃ a c, e = .returned (.tuple #[.slice a o.length c, .int .u64 ((nx : Int) - 1)]) ∧ St w w' tb rb (.slice a o.length c) o nx rs
theorem pks_one (l : List Pk) : ∀ u ∈ pks l, u.oneCell' = true := by
  intro u hu
  obtain ⟨p, _, hp⟩ := List.mem_flatMap.1 hu
  exact cells_one p u hp
theorem take_fin (base : Nat) (w w3 w4 : World) (TB AB LB WB tb rb n nx1 : Nat) (rs1 : Ring) (all : List Pk) (a : Option Addr) (c : Nat) (hne : TB ≠ AB ∧ TB ≠ LB ∧ AB ≠ LB)
    (hTB : Blk w3 TB 24 [.pointer (some ⟨tb, 0, none⟩)]) (hAB : Blk w3 AB 28 [.slice a all.length c]) {z : Value} (hLB : Blk w3 LB 29 [z]) (hWB : Blk w3 WB 3 [.int .i64 (n : Int)])
    (hT : Blk w3 tb 93 [.int .u64 (nx1 : Int), .slice (some ⟨rb, 0, none⟩) rs1.length rs1.length]) (hR : Blk w3 rb 90 (ring rs1))
    (hO : w3.ownsRow base 40 11 (.slice a all.length c) all.length (pks all)) (b1 : base ≤ TB) (b2 : base ≤ AB) (b3 : base ≤ LB) (b4 : base ≤ tb) (b5 : base ≤ rb)
    (hK : Keeps (fun _ => False) w3 w4) (hB : Below base w w3) :
    (∃ a c, OS base (w4.setCell ⟨LB, 0, none⟩ (.int .u64 ((nx1 : Int) - 1))) TB AB LB WB tb rb n nx1 rs1 all a c) ∧ Below base w (w4.setCell ⟨LB, 0, none⟩ (.int .u64 ((nx1 : Int) - 1))) := by
  have f : ¬ False := fun h => h
  have hL := hLB.keeps hK f
  have hO4 := owns_keeps hO hK (fun _ _ h => h)
  refine ⟨⟨a, c, (hTB.keeps hK f).far hne.2.1 _, (hAB.keeps hK f).far hne.2.2 _, by simpa using hL.set_ 0 _, (hWB.keeps hK f).far (Blk.ne_ hWB hLB (by decide)) _, (hT.keeps hK f).far (Blk.ne_ hT hLB (by decide)) _, (hR.keeps hK f).far (Blk.ne_ hR hLB (by decide)) _,
    owns_setCell hO4 (own_ne hO4 hL (by decide)).symm _, b1, b2, b3, b4, b5⟩, ?_⟩
  have hb := hTB.lt
  exact (hB.trans (hK.below (by omega) (fun _ _ h => h))).setCell (p := ⟨LB, 0, none⟩) b3 _
set_option maxRecDepth 100000 in
set_option maxHeartbeats 2000000 in
theorem take_any (base : Nat) (w : World) (TB AB LB WB tb rb n nx : Nat) (rs : Ring) (all : List Pk) (a : Option Addr) (c k : Nat) (o1 : List Pk) (nx1 : Nat) (rs1 : Ring) (h : OS base w TB AB LB WB tb rb n nx rs all a c)
    (hr : arr nx rs (pkt k) = (o1, nx1, rs1)) (hne : TB ≠ AB ∧ TB ≠ LB ∧ AB ≠ LB)
    (hn1 : 1 ≤ nx) (hn2 : nx ≤ 1000000) (hl : 0 < rs.length) (hl2 : rs.length ≤ 64) (hk : k ≤ 1000000) (hall : all.length + o1.length ≤ 1000000)
    (hmono : nx ≤ nx1) (hmax : nx1 ≤ 1000000) (hlen : rs1.length = rs.length) (hcnt : cnt nx1 rs1 rs1.length < n) :
    Calls Try.prog 15 #[.int .u64 (k : Int), .pointer (some ⟨TB, 0, none⟩), .pointer (some ⟨AB, 0, none⟩), .pointer (some ⟨LB, 0, none⟩), .pointer (some ⟨WB, 0, none⟩)] w
      (TakePost base w TB AB LB WB tb rb n nx1 rs1 (all ++ o1)) := by
  obtain ⟨hTB, hAB, hLB, hWB, hT, hR, hO, b1, b2, b3, b4, b5⟩ := h
  have tB0 := hTB.cell 0
  have aB0 := hAB.cell 0
  have lB0 := hLB.cell 0
  have wB0 := hWB.cell 0
  simp only [List.getElem?_cons_zero] at tB0 aB0 lB0 wB0
  obtain ⟨i0, hi0', hz0', hz1', hz2'⟩ := info_parts pkInfo
  have hi0 := Lib.hid hi0'; have hz0 := Lib.hid hz0'; have hz1 := Lib.hid hz1'; have hz2 := Lib.hid hz2'; have hln := Lib.hid hlen
  clear hi0' hz0' hz1' hz2'
  have hA : Calls Try.prog 16 #[.pointer (some ⟨tb, 0, none⟩), .agg (pkt k).cells.toArray] w (ArrTo w tb rb nx1 rs1 o1) := by
    refine (arrive_sl tb rb nx rs (pkt k) _ hn1 (by omega) hl hl2 hT hR (by simp [pkt]; omega)).mono ?_
    rintro e w' ⟨a, c, h1, h2⟩
    rw [hr] at h1 h2
    exact ⟨a, c, h1, h2⟩
  have hA' := Lib.hid hA
  clear hA hr hlen
  go_enter Try.func15, Try.ntmps15
  go_wp2_with fail
  refine hA'.out.mono ?_
  rintro e w1 ⟨a1, c1, rfl, hT1, hR1, hO1, hK1⟩
  have ht1 : TB ≠ tb := Blk.ne_ hTB hT (by decide)
  have ht2 : TB ≠ rb := Blk.ne_ hTB hR (by decide)
  have ha1 : AB ≠ tb := Blk.ne_ hAB hT (by decide)
  have ha2 : AB ≠ rb := Blk.ne_ hAB hR (by decide)
  have hl1 : LB ≠ tb := Blk.ne_ hLB hT (by decide)
  have hl3 : LB ≠ rb := Blk.ne_ hLB hR (by decide)
  have hw1 : WB ≠ tb := Blk.ne_ hWB hT (by decide)
  have hw2 : WB ≠ rb := Blk.ne_ hWB hR (by decide)
  have hTB1 := hTB.keeps hK1 (by omega)
  have hAB1 := hAB.keeps hK1 (by omega)
  have hLB1 := hLB.keeps hK1 (by omega)
  have hWB1 := hWB.keeps hK1 (by omega)
  have hOw : w1.ownsRow base 40 11 (.slice a all.length c) all.length (pks all) := owns_keeps hO hK1 (by rintro b hb (h | h) <;> subst h; exact own_ne hO hT (by decide) hb.symm; exact own_ne hO hR (by decide) hb.symm)
  clear hAB hLB hWB hT hR tB0 aB0 lB0 wB0
  have tB0 := hTB1.cell 0
  have aB0 := hAB1.cell 0
  have lB0 := hLB1.cell 0
  have wB0 := hWB1.cell 0
  simp only [List.getElem?_cons_zero] at tB0 aB0 lB0 wB0
  go_wp2_with (first
    | (at_builtin
       refine wpList_append_src rfl (.tmp 20) (.tmp 21) 28 rfl base 40 i0 _ 11 64 Try.underlying28 hi0.out hz0.out hz1.out hz2.out rfl (by omega) (.slice a all.length c) all.length (pks all) rfl hOw (.slice a1 o1.length c1) o1.length (pks o1) w.heap.size rfl hO1 (pks_one o1) (by unfold maxLen; omega) (by omega) (by have := hTB1.lt; omega) ?_
       intro a2 c2 w2 hO2 hg2
       have hTB2 := hTB1.grown hg2 (own_ne hOw hTB1 (by decide))
       have hAB2 := hAB1.grown hg2 (own_ne hOw hAB1 (by decide))
       have hLB2 := hLB1.grown hg2 (own_ne hOw hLB1 (by decide))
       have hWB2 := hWB1.grown hg2 (own_ne hOw hWB1 (by decide))
       have hT2 := hT1.grown hg2 (own_ne hOw hT1 (by decide))
       have hR2 := hR1.grown hg2 (own_ne hOw hR1 (by decide))
       have tC0 := hTB2.cell 0
       have aC0 := hAB2.cell 0
       have aCf := hAB2.frozen 0
       have lC0 := hLB2.cell 0
       have wC0 := hWB2.cell 0
       simp only [List.getElem?_cons_zero] at tC0 aC0 lC0 wC0
       clear tB0 aB0 lB0 wB0))
  have hsz := hTB.lt
  have hB1 : Below base w w1 := hK1.below (by omega) (by intro k hk h; omega)
  have hB2 : Below base w w2 := hB1.grown hg2 (by have := hK1.size; omega) (fun k hk => (hOw.lt k hk).1)
  have hB3 : Below base w (w2.setCell ⟨AB, 0, none⟩ (.slice a2 (all.length + o1.length) c2)) := hB2.setCell (p := ⟨AB, 0, none⟩) b2 _
  have hTB3 := hTB2.far (p := ⟨AB, 0, none⟩) hne.1 (.slice a2 (all.length + o1.length) c2)
  have hAB3 := hAB2.set_ 0 (.slice a2 (all.length + o1.length) c2)
  have hLB3 := hLB2.far (p := ⟨AB, 0, none⟩) (Ne.symm hne.2.2) (.slice a2 (all.length + o1.length) c2)
  have hWB3 := hWB2.far (p := ⟨AB, 0, none⟩) (Blk.ne_ hWB2 hAB2 (by decide)) (.slice a2 (all.length + o1.length) c2)
  have hT3 := hT2.far (p := ⟨AB, 0, none⟩) (Blk.ne_ hT2 hAB2 (by decide)) (.slice a2 (all.length + o1.length) c2)
  have hR3 := hR2.far (p := ⟨AB, 0, none⟩) (Blk.ne_ hR2 hAB2 (by decide)) (.slice a2 (all.length + o1.length) c2)
  have hO3 := owns_setCell hO2 (p := ⟨AB, 0, none⟩) (own_ne hO2 hAB2 (by decide)).symm (.slice a2 (all.length + o1.length) c2)
  generalize w2.setCell ⟨AB, 0, none⟩ (.slice a2 (all.length + o1.length) c2) = w3 at *
  clear tC0 aC0 aCf lC0 wC0 hTB2 hAB2 hLB2 hWB2 hT2 hR2 hO2 hB1 hB2 hg2 hO1 hOw hTB1 hAB1 hLB1 hWB1 hT1 hR1 hK1 hO
  have tC0 := hTB3.cell 0
  have lC0 := hLB3.cell 0
  have wC0 := hWB3.cell 0
  have hd : decide ((nx : Int) - 1 ≤ (nx1 : Int) - 1) = true := by simp; omega
  have hcn : ((cnt nx1 rs1 rs1.length : Nat) : Int) < (n : Int) := by omega
  have hrl1 : 0 < rs1.length := by have := hln.out; omega
  have hrl2 : rs1.length ≤ 64 := by have := hln.out; omega
  have hwr : IntKind.u64.wrap (nx1 : Int) = (nx1 : Int) := by simp [IntKind.wrap, IntKind.signed, IntKind.bits]; omega
  have heq : (((nx1 : Int) == (nx1 : Int) - 1 + 1)) = true := by simp
  simp only [List.getElem?_cons_zero] at tC0 lC0 wC0
  have HA3 := Lib.hid (show Blk w3.drew AB 28 [.slice a2 (all ++ o1).length c2] by have : Blk w3 AB 28 [.slice a2 (all ++ o1).length c2] := (by simpa using hAB3); exact this)
  have HO3 := Lib.hid (show w3.drew.ownsRow base 40 11 (.slice a2 (all ++ o1).length c2) (all ++ o1).length (pks (all ++ o1)) by have : w3.ownsRow base 40 11 (.slice a2 (all ++ o1).length c2) (all ++ o1).length (pks (all ++ o1)) := (by simpa [pks] using hO3); exact this)
  go_region_with (first
    | (go_at_call 17; refine (kept_any tb rb nx1 rs1 _ (by omega) hrl1 hrl2 (by exact hT3) (by exact hR3)).mono ?_; rintro e w4 ⟨⟨a4, c4, rfl⟩, hK4⟩; have wD0 := hK4.cell wC0 (by simp); have tD0 := hK4.cell tC0 (by simp); have lD0 := hK4.cell lC0 (by simp); have lDf := (Blk.keeps (by exact hLB3) hK4 (by simp)).frozen 0)
    | (go_at_call 18; refine (next_any tb rb rs1.length nx1 _ (by exact (Blk.keeps (by exact hT3) hK4 (by simp)).cell 0) (by exact (Blk.keeps (by exact hT3) hK4 (by simp)).cell 1) hrl1).mono ?_; rintro e w5 ⟨rfl, rfl⟩))
  all_goals
    go_wp2
    go_ret
    exact ⟨rfl, take_fin base w w3.drew w4 TB AB LB WB tb rb n nx1 rs1 (all ++ o1) a2 c2 hne hTB3 HA3.out hLB3 hWB3 hT3 hR3 HO3.out b1 b2 b3 b4 b5 hK4 hB3.drew⟩
end Take
end Go.Proofs.Ytndghakagogmcaa
