/-
FiI: the finder: the scan: right, wrong, Put, Del, Len.
-/
import Derived.Test.YtdbpfbokfmpgcaaGreatZbhFiLHxPAppBFqAFqBFiG
import Derived.Test.YtdbpfbokfmpgcaaGreatZbgFiF
import Derived.Test.YtdbpfbokfmpgcaaGreatZaoGsKGsLGsN
set_option linter.unusedVariables false
set_option linter.unusedSimpArgs false
set_option linter.ambiguousOpen false
set_option maxHeartbeats 16000000
attribute [local go_sem] Go.Oper.semAt_some
namespace Go.Proofs.YtdbpfbokfmpgcaaGreat
theorem Zi {p : Prop} (h : p := by
 clear hl
 go_enter Tryz.func79, Tryz.ntmps79
 go_wp2_with (go_at_call 89; (with_reducible refine (z _).mono ?_); rintro e w4 ⟨rfl, k4⟩; have k5 := ((Keeps.refl (fun _ => False) w).alloc (.cells #[.int .i32 b.x0, .int .i32 b.y0, .int .i32 b.x1, .int .i32 b.y1] 39)).trans k4; have cB := (HB.out.kd k5).cell; have cB1 := fun o => (HB.out.kd (k5.alloc o)).cell; have hlk := HL.out _ k5; have hln := fun o ty => HN.out _ (k5.alloc o) ty; have HK4 := Lib.hid k5; clear k4 k5)
 go_ret
 exact ⟨rfl, HK4.out.alloc _⟩) : p := h
theorem Zp {p : Prop} (h : p := by
 unfold putF at hyes ⊢
 by_cases hb : Right b
 ·cases hh : hasB L id
  ·by_cases hl : 65536 ≤ L.length
   ·simp [hb, hh, hl] at hyes
   ·simp [hb, hl]
  ·simp [hb, hh] at hyes
 ·simp [hb] at hyes) : p := h
open Go.RowKit Go.Shelf
namespace Fi
open Mem Gr Gs
theorem fright_t (b : Bx) (w : World) : Calls Tryz.prog 89 #[.agg #[.int .i32 b.x0, .int .i32 b.y0, .int .i32 b.x1, .int .i32 b.y1]] w (Gave (.bool (decide (Right b))) w) := by
 unfold Right
 by_cases h1 : On b.x0 b.y0 <;> by_cases h2 : On b.x1 b.y1 <;> by_cases h3 : b.x0 ≤ b.x1 <;> by_cases h4 : b.y0 ≤ b.y1
 all_goals
  have i1 := pin_t b.x0 b.y0
  have i2 := pin_t b.x1 b.y1
  simp only [h1, h2, h3, h4, true_and, false_and, and_true, and_false, decide_true, decide_false] at i1 i2 ⊢
  go_enter Tryz.func89, Tryz.ntmps89
  go_wp2_with (go_at_call 85; (first | (with_reducible refine (i1 _).mono ?_) | (with_reducible refine (i2 _).mono ?_)); rintro e w1 ⟨rfl, rfl⟩)
  exact Zk
def ScB (W : World) (B off r : Nat) : Prop := ∃ t cs, Blk W B t cs ∧ cs[off]? = some (.map (some r))
section
variable {W W' : World} {B off r : Nat} {L : List (Nat × Bx)}
theorem ScB.cell (h : ScB W B off r) : W.cell? ⟨B, off, none⟩ = some (.map (some r)) := by
 obtain ⟨t, cs, hb, hc⟩ := h
 rw [hb.cell]; exact hc
theorem ScB.keeps {S : Nat → Prop} (h : ScB W B off r) (hk : Keeps S W W') (hn : ¬ S B) : ScB W' B off r := by
 obtain ⟨t, cs, hb, hc⟩ := h
 exact ⟨t, cs, hb.keeps hk hn, hc⟩
theorem ScB.kd (h : ScB W B off r) (hk : Keeps (fun _ => False) W W') : ScB W' B off r := h.keeps hk (fun h => h)
theorem ScB.ne (h : ScB W B off r) {L : List (Nat × Value)} (hM : MapL kid W r L) : B ≠ r := by
 obtain ⟨t, cs, hb, hc⟩ := h
 exact hM.ne hb
end
theorem lenB {W : World} {r : Nat} {L : List (Nat × Bx)} (h : MapL kid W r (kvB L)) (ty : TypeId) : (Builtin.len_ #[60] ty #[.map (some r)]).run Tryz.prog W = .ok (.int .i64 (L.length : Int)) W := by
 have := h.len (P := Tryz.prog) Tryz.underlying60 ty
 simpa only [kvB, List.length_map] using this
section
variable {B off r : Nat} {L : List (Nat × Bx)} {w : World}
theorem wrong_box (hB : ScB w B off r) (hM : MapL kid w r (kvB L)) (id : Nat) (b : Bx) (hb : ¬ Right b) : Calls Tryz.prog 79 #[.pointer (some ⟨B, off, none⟩), .int .u32 (id : Int), .agg #[.int .i32 b.x0, .int .i32 b.y0, .int .i32 b.x1, .int .i32 b.y1]] w (Gave (.int .i64 (putF L id b).1) w) := by
 have e : (putF L id b).1 = 142 := by simp [putF, hb]
 rw [e]
 have z := fright_t b
 simp only [hb, decide_false] at z
 clear e hb hB hM
 go_enter Tryz.func79, Tryz.ntmps79
 go_wp2_with (go_at_call 89; (with_reducible refine (z _).mono ?_); rintro e w4 ⟨rfl, k4⟩; have HK4 := Lib.hid (((Keeps.refl (fun _ => False) w).alloc (.cells #[.int .i32 b.x0, .int .i32 b.y0, .int .i32 b.x1, .int .i32 b.y1] 39)).trans k4); clear k4)
 go_ret
 exact ⟨rfl, HK4.out⟩
theorem wrong_there (hB : ScB w B off r) (hM : MapL kid w r (kvB L)) (id : Nat) (b : Bx) (hb : Right b) (hh : hasB L id = true) : Calls Tryz.prog 79 #[.pointer (some ⟨B, off, none⟩), .int .u32 (id : Int), .agg #[.int .i32 b.x0, .int .i32 b.y0, .int .i32 b.x1, .int .i32 b.y1]] w (Gave (.int .i64 (putF L id b).1) w) := by
 have e : (putF L id b).1 = 140 := by simp [putF, hb, hh]
 rw [e]
 have z := fright_t b
 simp only [hb, decide_true] at z
 obtain ⟨b0, hb0⟩ := look_val L id
 have hL := fun W (k : Keeps (fun _ => False) w W) => look_box (hM.keeps k (fun h => h)) id
 simp only [hb0, hh, Bx.val] at hL
 have HL := Lib.hid hL
 have HB := Lib.hid hB
 clear e hb hB hM hL hb0 hh
 go_enter Tryz.func79, Tryz.ntmps79
 go_wp2_with (go_at_call 89; (with_reducible refine (z _).mono ?_); rintro e w4 ⟨rfl, k4⟩; have k5 := ((Keeps.refl (fun _ => False) w).alloc (.cells #[.int .i32 b.x0, .int .i32 b.y0, .int .i32 b.x1, .int .i32 b.y1] 39)).trans k4; have cB := (HB.out.kd k5).cell; have hlk := HL.out _ k5; have HK4 := Lib.hid k5; clear k4 k5)
 go_ret
 exact ⟨rfl, HK4.out.alloc _⟩
theorem wrong_not (hB : ScB w B off r) (hM : MapL kid w r (kvB L)) (id : Nat) (b : Bx) (hb : Right b) (hh : hasB L id = false) : Calls Tryz.prog 79 #[.pointer (some ⟨B, off, none⟩), .int .u32 (id : Int), .agg #[.int .i32 b.x0, .int .i32 b.y0, .int .i32 b.x1, .int .i32 b.y1]] w (Gave (.int .i64 (putF L id b).1) w) := by
 have e : (putF L id b).1 = if (65536 : Int) ≤ (L.length : Int) then 5 else 0 := by
  unfold putF
  rw [if_neg (by simpa using hb), if_neg (by simp [hh])]
  by_cases hl : 65536 ≤ L.length
  ·rw [if_pos hl, if_pos Z8]
  ·rw [if_neg hl, if_neg Z8]
 rw [e]
 have z := fright_t b
 simp only [hb, decide_true] at z
 obtain ⟨b0, hb0⟩ := look_val L id
 have hL := fun W (k : Keeps (fun _ => False) w W) => look_box (hM.keeps k (fun h => h)) id
 simp only [hb0, hh, Bx.val] at hL
 have hN := fun W (k : Keeps (fun _ => False) w W) ty => lenB (hM.keeps k (fun h => h)) ty
 obtain ⟨n, hn⟩ := ZE ((L.length : Int))
 rw [← hn] at hN ⊢
 have HL := Lib.hid hL
 have HN := Lib.hid hN
 have HB := Lib.hid hB
 clear e hb hB hM hL hb0 hh hN hn
 by_cases hl : (65536 : Int) ≤ n
 ·rw [if_pos hl]
  have hF : ((65536 : Int) ≤ n) = True := eq_true hl
  exact Zi
 ·rw [if_neg hl]
  have hF : ((65536 : Int) ≤ n) = False := eq_false hl
  exact Zi
theorem wrong_t (hB : ScB w B off r) (hM : MapL kid w r (kvB L)) (id : Nat) (b : Bx) : Calls Tryz.prog 79 #[.pointer (some ⟨B, off, none⟩), .int .u32 (id : Int), .agg #[.int .i32 b.x0, .int .i32 b.y0, .int .i32 b.x1, .int .i32 b.y1]] w (Gave (.int .i64 (putF L id b).1) w) := by
 by_cases hb : Right b
 ·cases hh : hasB L id
  ·exact wrong_not hB hM id b hb hh
  ·exact wrong_there hB hM id b hb hh
 ·exact wrong_box hB hM id b hb
theorem slen_t (hB : ScB w B off r) (hM : MapL kid w r (kvB L)) : Calls Tryz.prog 73 #[.pointer (some ⟨B, off, none⟩)] w (fun e w' => e = .returned (.int .i64 (L.length : Int)) ∧ w = w') := by
 have hl := lenB hM
 have cB := hB.cell
 clear hB hM
 go_enter Tryz.func73, Tryz.ntmps73
 go_wp2
 go_ret
 exact ⟨rfl, rfl⟩
def SDid (r : Nat) (p : Int × List (Nat × Bx)) (w : World) (e : Ending) (w' : World) : Prop := e = .returned (.int .i64 p.1) ∧ MapL kid w' r (kvB p.2) ∧ Keeps (fun k => k = r) w w'
theorem sput_no (hB : ScB w B off r) (hM : MapL kid w r (kvB L)) (id : Nat) (b : Bx) (hno : (putF L id b).1 ≠ 0) : Calls Tryz.prog 74 #[.pointer (some ⟨B, off, none⟩), .int .u32 (id : Int), .agg #[.int .i32 b.x0, .int .i32 b.y0, .int .i32 b.x1, .int .i32 b.y1]] w (SDid r (putF L id b) w) := by
 have e2 : (putF L id b).2 = L := by
  unfold putF at hno ⊢
  by_cases hb : Right b
  ·cases hh : hasB L id
   ·by_cases hl : 65536 ≤ L.length
    ·simp [hb, hl]
    ·simp [hb, hh, hl] at hno
   ·simp [hb]
  ·simp [hb]
 obtain ⟨v, hv⟩ := ZE ((putF L id b).1)
 have z := fun W (k : Keeps (fun _ => False) w W) => wrong_t (hB.kd k) (hM.keeps k (fun h => h)) id b
 have HE := Lib.hid (And.intro e2 (And.intro hv hM))
 rw [← hv] at hno
 simp only [← hv] at z
 have HZ := Lib.hid z
 clear hB hM e2 z hv
 go_enter Tryz.func74, Tryz.ntmps74
 go_wp2_with (go_at_call 79; (with_reducible refine (HZ.out _ Z4).mono ?_); rintro e w4 ⟨rfl, k4⟩; have HK4 := Lib.hid (((Keeps.refl (fun _ => False) w).alloc (.cells #[.int .i32 b.x0, .int .i32 b.y0, .int .i32 b.x1, .int .i32 b.y1] 39)).trans k4); clear k4)
 go_ret
 obtain ⟨e2, hv, hM⟩ := HE.out
 exact ⟨by rw [hv]; rfl, by rw [e2]; exact hM.keeps HK4.out (fun h => h), HK4.out.mono (fun _ _ h => h.elim)⟩
theorem sput_yes (hB : ScB w B off r) (hM : MapL kid w r (kvB L)) (id : Nat) (b : Bx) (hyes : (putF L id b).1 = 0) : Calls Tryz.prog 74 #[.pointer (some ⟨B, off, none⟩), .int .u32 (id : Int), .agg #[.int .i32 b.x0, .int .i32 b.y0, .int .i32 b.x1, .int .i32 b.y1]] w (SDid r (putF L id b) w) := by
 have e2 : (putF L id b).2 = L ++ [(id, b)] ∧ hasB L id = false := by
  exact Zp
 have z := fun W (k : Keeps (fun _ => False) w W) => wrong_t (hB.kd k) (hM.keeps k (fun h => h)) id b
 simp only [hyes] at z
 have HZ := Lib.hid z
 have HE := Lib.hid (And.intro e2 (And.intro hyes (And.intro hB hM)))
 have b5 := Blk.new w 39 [.int .i32 b.x0, .int .i32 b.y0, .int .i32 b.x1, .int .i32 b.y1]
 have HB5 := Lib.hid b5
 clear hB hM e2 z hyes b5
 go_enter Tryz.func74, Tryz.ntmps74
 go_wp2_with (go_at_call 79; (with_reducible refine (HZ.out _ Z4).mono ?_); rintro e w4 ⟨rfl, k4⟩; have HK4 := Lib.hid (((Keeps.refl (fun _ => False) w).alloc (.cells #[.int .i32 b.x0, .int .i32 b.y0, .int .i32 b.x1, .int .i32 b.y1] 39)).trans k4); have HB4 := Lib.hid (HB5.out.keeps k4 (fun h => h)); clear k4)
 obtain ⟨⟨e2, hno⟩, hyes, hB, hM⟩ := HE.out
 obtain ⟨w5, hrun, hm, hk⟩ := (hM.keeps HK4.out.drew (fun h => h)).update keyid Tryz.underlying60 b.val (hasB_no hno)
 have hBr := hB.ne hM
 have hB4 := HB4.out.drew
 have hB5 := hB4.keeps hk (fun e => by have := hM.lt; omega)
 have cB : w4.drew.cell? ⟨B, off, none⟩ = some (.map (some r)) := (hB.kd HK4.out.drew).cell
 have cB' : w5.cell? ⟨B, off, none⟩ = some (.map (some r)) := ((hB.kd HK4.out.drew).keeps hk hBr).cell
 have cX := hB4.cell
 have cX' := hB5.cell
 have HM := Lib.hid (And.intro hm (And.intro hk (And.intro e2 hyes)))
 simp only [kid, Bx.val] at hrun
 clear hB hM hm hk e2 hyes hno hB4 hB5 hBr
 go_region_held3 (fun W => W.cell? ⟨B, off, none⟩ = some (.map (some r)) ∧ ∀ i : Nat, W.cell? ⟨w.heap.size, i, none⟩ = ([.int .i32 b.x0, .int .i32 b.y0, .int .i32 b.x1, .int .i32 b.y1] : List Value)[i]?) (first | with_reducible assumption | exact ⟨cB, cX⟩ | exact ⟨cB', cX'⟩) (first | fail)
 clear hrun
 go_wp2
 go_ret
 obtain ⟨hm, hk, e2, hyes⟩ := HM.out
 exact ⟨by rw [hyes]; rfl, by rw [e2]; simpa [kvB] using hm, (HK4.out.drew.mono (fun _ _ h => h.elim)).trans hk⟩
theorem sput_t (hB : ScB w B off r) (hM : MapL kid w r (kvB L)) (id : Nat) (b : Bx) : Calls Tryz.prog 74 #[.pointer (some ⟨B, off, none⟩), .int .u32 (id : Int), .agg #[.int .i32 b.x0, .int .i32 b.y0, .int .i32 b.x1, .int .i32 b.y1]] w (SDid r (putF L id b) w) := by
 by_cases h : (putF L id b).1 = 0
 ·exact sput_yes hB hM id b h
 ·exact sput_no hB hM id b h
theorem sdel_no (hB : ScB w B off r) (hM : MapL kid w r (kvB L)) (id : Nat) (hno : hasB L id = false) : Calls Tryz.prog 72 #[.pointer (some ⟨B, off, none⟩), .int .u32 (id : Int)] w (SDid r (delF L id) w) := by
 obtain ⟨b0, hb0⟩ := look_val L id
 have hlk := look_box hM id
 rw [hb0, hno] at hlk
 simp only [Bx.val] at hlk
 have cB := hB.cell
 have HE := Lib.hid (And.intro hno hM)
 clear hB hM hno hb0
 go_enter Tryz.func72, Tryz.ntmps72
 go_wp2
 go_ret
 obtain ⟨hno, hM⟩ := HE.out
 refine ⟨by simp [delF, hno], ?_, Z4⟩
 simp only [delF, hno, Bool.false_eq_true, if_false]
 exact hM.alloc _
theorem sdel_yes (hB : ScB w B off r) (hM : MapL kid w r (kvB L)) (id : Nat) (hyes : hasB L id = true) : Calls Tryz.prog 72 #[.pointer (some ⟨B, off, none⟩), .int .u32 (id : Int)] w (SDid r (delF L id) w) := by
 obtain ⟨b0, hb0⟩ := look_val L id
 have hlk := look_box hM id
 rw [hb0, hyes] at hlk
 simp only [Bx.val] at hlk
 have cB := hB.cell
 have hM1 := hM.alloc (.cells #[.int .i32 b0.x0, .int .i32 b0.y0, .int .i32 b0.x1, .int .i32 b0.y1] 39)
 have cB1 := (hB.kd ((Keeps.refl (fun _ => False) w).alloc (.cells #[.int .i32 b0.x0, .int .i32 b0.y0, .int .i32 b0.x1, .int .i32 b0.y1] 39))).cell
 obtain ⟨w5, hrun, hm, hk⟩ := hM1.delete keyid (kty := 35) Tryz.underlying60 id 0
 rw [delK_kvB] at hm
 simp only [kid] at hrun
 have HE := Lib.hid (And.intro hyes (And.intro hm hk))
 clear hB hM hyes hb0 hM1 hm hk
 go_enter Tryz.func72, Tryz.ntmps72
 go_wp2
 go_ret
 obtain ⟨hyes, hm, hk⟩ := HE.out
 refine ⟨by simp [delF, hyes], ?_, (((Keeps.refl (fun _ => False) w).alloc _).mono (fun _ _ h => h.elim)).trans hk⟩
 simp only [delF, hyes, if_true]
 exact hm
theorem sdel_t (hB : ScB w B off r) (hM : MapL kid w r (kvB L)) (id : Nat) : Calls Tryz.prog 72 #[.pointer (some ⟨B, off, none⟩), .int .u32 (id : Int)] w (SDid r (delF L id) w) := by
 cases h : hasB L id
 ·exact sdel_no hB hM id h
 ·exact sdel_yes hB hM id h
end
end Fi
end Go.Proofs.YtdbpfbokfmpgcaaGreat
