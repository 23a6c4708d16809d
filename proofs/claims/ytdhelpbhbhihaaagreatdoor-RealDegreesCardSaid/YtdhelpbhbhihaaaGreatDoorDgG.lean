/-
  DgG: the package's writing of millionths.
-/
import Derived.Test.YtdhelpbhbhihaaaGreatDoorDgF
import Derived.Test.YtdhelpbhbhihaaaGreatDoorDgC
import Derived.Test.YtdhelpbhbhihaaaGreatDoorRlL
import Derived.Shelf.Strconv.Itoa4
import Derived.Lib.LaidTab
namespace Go.Proofs
open Go.Shelf
shelf_lay Lays.n162 Nm 162 at Tryz as Tryz.lays162
shelf_lay LaysM.n173 Nm 173 at Tryz as Tryz.laysM173
end Go.Proofs
namespace Go.Proofs.YtdhelpbhbhihaaaGreatDoor
open Go.RowKit Go.Shelf Go.Lib
set_option linter.unusedVariables false
set_option linter.unusedSimpArgs false
attribute [local go_sem] Oper.semAt_some
namespace Dg
open Mem
/-- the ten's powers, as their variable holds them -/
def Tens (w : World) : Prop := Lib.TabIs Tryz.prog w "internal/strconv.uint64pow10" .u64 Lib.pow10Tab
theorem gtens : Tryz.prog.globalNamed "internal/strconv.uint64pow10" = some 4 := by kernel_rfl
theorem tens_below {w w' : World} (h : Tens w) (hb : Below w.heap.size w w') : Tens w' := by
  unfold Tens Lib.TabIs World.var? at h ⊢
  rw [gtens] at h ⊢
  simp only [Option.bind_some] at h ⊢
  have hlt : 4 < w.heap.size := by
    rcases Nat.lt_or_ge 4 w.heap.size with h' | h'
    · exact h'
    · rw [Array.getElem?_eq_none h'] at h; cases h
  rw [hb.block _ hlt]
  exact h
theorem tens_laid {W : World} {laid : List (String × DataW Unit)} (h : laidMetH Tryz.prog laid W) (hl : Rl.Lists laid) : Tens W := by
  have h1 := h.filter (fun x => x.1 == "internal/strconv.uint64pow10")
  rw [hl.ten] at h1
  have h2 := (laidMetH_iff.1 h1).1
  exact Lib.tabIs_of_head (t := 138) (e := 28) (n := 20) gtens (by kernel_rfl) Tryz.underlying138 Tryz.underlying28 (by kernel_rfl) (by kernel_rfl) h2
theorem grow_bw (w : World) (q : Nat) (os : Array Obj) : Below w.heap.size w (Go.Sort.grow (w.drewN q) os) :=
  ⟨rfl, rfl, rfl, by simp [Go.Sort.grow], fun i hi => by
    show ((w.drewN q).heap ++ os)[i]? = _
    rw [Array.getElem?_append_left (by show i < w.heap.size; omega)]
    rfl⟩
theorem fi_t (u : Nat) (hu : u ≤ 9223372036854775807) (w : World) (ht : Tens w) : Calls Tryz.prog 53 #[.int .i64 (u : Int), .int .i64 10] w fun e w' => e = .returned (tx (decDigits u)) ∧ Below w.heap.size w w' := by
  refine (Any.strconv_FormatInt_10 Tryz.laysM173 (u : Int) (by omega) (by omega) w ht).mono ?_
  rintro e w' ⟨rfl, k, os, rfl⟩
  rw [itoa_nonneg]
  exact ⟨rfl, grow_bw w k os⟩
theorem tr_t (l : List UInt8) (hl : l.length ≤ 1000) (w : World) : Calls Tryz.prog 54 #[tx l, .string ⟨#[48]⟩] w fun e w' => e = .returned (tx (trimRightS l [48])) ∧ Below w.heap.size w w' :=
  Any.strings_TrimRight_laid Tryz.lays162 (by kernel_rfl) ⟨l.toArray⟩ ⟨#[48]⟩ w (by show l.length ≤ _; omega) (by decide) (ascii_of_all (by decide))
theorem cat_dot (sn dq tr : List UInt8) : ((({ data := sn.toArray } : ByteArray) ++ { data := dq.toArray }) ++ (({ data := #[46] } : ByteArray) ++ { data := tr.toArray })) = { data := (sn ++ dq ++ 46 :: tr).toArray } := by
  have h1 := cat_tx sn dq
  have h2 := cat_tx [46] tr
  have h3 := cat_tx (sn ++ dq) ([46] ++ tr)
  rw [← h1, ← h2] at h3
  exact h3
set_option maxHeartbeats 4000000 in
set_option maxRecDepth 20000 in
theorem deg_t (m : Int) (h1 : -2147483648 ≤ m) (h2 : m ≤ 2147483647) (w : World) (ht : Tens w) : Calls Tryz.prog 31 #[.int .i32 m] w fun e w' => e = .returned (tx (deg m)) ∧ Below w.heap.size w w' := by
  obtain ⟨n, hn⟩ : ∃ n, n = m.natAbs := ⟨_, rfl⟩
  obtain ⟨q, hq⟩ : ∃ q, q = n / 1000000 := ⟨_, rfl⟩
  obtain ⟨p, hp⟩ : ∃ p, p = n % 1000000 := ⟨_, rfl⟩
  obtain ⟨sn, hsn⟩ : ∃ sn : List UInt8, sn = if m < 0 then [45] else [] := ⟨_, rfl⟩
  have hdeg : deg m = sn ++ decDigits q ++ (if p = 0 then [] else 46 :: (D6 p).take (cut6 p)) := by unfold deg; rw [← hn, ← hq, ← hp, ← hsn]
  have hpn : p < 1000000 := by omega
  have hqn : q < 10000 := by omega
  have e1 : (n : Int).tdiv 1000000 = (q : Int) := by rw [hq]; rfl
  have e2 : (n : Int).tmod 1000000 = (p : Int) := by rw [hp]; rfl
  have HD := Lib.hid hdeg
  have HT := Lib.hid ht
  have hql := dec_len hqn
  have z1 := fun W hW => fi_t q (by omega) W hW
  obtain ⟨dq, hdq⟩ : ∃ dq, dq = decDigits q := ⟨_, rfl⟩
  rw [← hdq] at z1 hdeg hql
  have HDQ := Lib.hid hdq
  have z2 : ∀ W, Tens W → Calls Tryz.prog 53 #[.int .i64 (1000000 + (p : Int)), .int .i64 10] W fun e w' => e = .returned (tx (49 :: D6 p)) ∧ Below W.heap.size W w' := by
    intro W hW
    have h := fi_t (1000000 + p) (by omega) W hW
    rw [dec_million hpn] at h
    rw [show ((1000000 + p : Nat) : Int) = 1000000 + (p : Int) by omega] at h
    exact h
  have z3 := fun W => tr_t (D6 p) (by show 6 ≤ 1000; decide) W
  have hd6 : (D6 p).length = 6 := rfl
  have hp0' := fun h0 => trim_D6 h0 hpn
  obtain ⟨tr, htr⟩ : ∃ tr, tr = trimRightS (D6 p) [48] := ⟨_, rfl⟩
  rw [← htr] at z3 hp0'
  obtain ⟨ds, hds⟩ : ∃ ds, ds = D6 p := ⟨_, rfl⟩
  rw [← hds] at z2 z3 hd6
  have hex : (({ data := (49 :: ds).toArray } : ByteArray).extract 1 7) = { data := ds.toArray } := by
    rw [ex_tx]
    show ({ data := (ds.take 6).toArray } : ByteArray) = _
    rw [List.take_of_length_le (by omega)]
  have z3 : ∀ W, Calls Tryz.prog 54 #[.string (({ data := (49 :: ds).toArray } : ByteArray).extract 1 7), .string ⟨#[48]⟩] W fun e w' => e = .returned (tx tr) ∧ Below W.heap.size W w' := by rw [hex]; exact z3
  clear hex
  have HDS := Lib.hid (And.intro htr hds)
  have htl : p ≠ 0 → tr.length ≤ 6 := fun h => by have h6 : (D6 p).length = 6 := rfl; rw [hp0' h, List.length_take, h6]; have := cut6_le p; omega
  have HP := Lib.hid hp0'
  clear htr hds hp0' hdq ht hdeg
  have AR : True := trivial
  by_cases hneg : m < 0
  · have hm : m = -(n : Int) := by omega
    have hn0 : 0 < n := by omega
    rw [if_pos hneg] at hsn
    clear hn hq hp hneg
    subst hm
    subst hsn
    have hnI : -(n : Int) < 0 := by omega
    by_cases hp0 : p = 0
    · subst hp0
      clear htl
      go_enter Tryz.func31, Tryz.ntmps31
      go_wp2_with (first | (go_at_call 53; with_reducible refine (z1 _ HT.out).mono ?_; rintro e w5 ⟨rfl, h5⟩; have H5 := Lib.hid h5; clear h5))
      go_ret
      refine ⟨?_, H5.out⟩
      rw [HD.out, ← HDQ.out, if_pos trivial, List.append_nil]
      exact congrArg Ending.returned (congrArg Value.string (cat_tx [45] dq))
    · have hpI : ¬ (p : Int) = 0 := by omega
      have htl2 := htl hp0
      clear htl
      go_enter Tryz.func31, Tryz.ntmps31
      go_wp2_with (first | (go_at_call 53; with_reducible refine (z1 _ HT.out).mono ?_; rintro e w5 ⟨rfl, h5⟩; have H5 := Lib.hid h5; clear h5) | (go_at_call 53; with_reducible refine (z2 _ (tens_below HT.out H5.out)).mono ?_; rintro e w6 ⟨rfl, h6⟩; have H6 := Lib.hid (H5.out.trans (h6.mono H5.out.size)); clear h6) | (go_at_call 54; with_reducible refine (z3 _).mono ?_; rintro e w7 ⟨rfl, h7⟩; have H7 := Lib.hid (H6.out.trans (h7.mono H6.out.size)); clear h7))
      go_ret
      refine ⟨?_, H7.out⟩
      rw [HD.out, ← HDQ.out, if_neg hp0, ← HP.out hp0]
      refine congrArg Ending.returned ((congrArg Value.string (cat_dot [45] dq tr)).trans ?_)
      rfl
  · have hm : m = (n : Int) := by omega
    rw [if_neg hneg] at hsn
    clear hn hq hp hneg
    subst hm
    subst hsn
    have hnI : ¬ (n : Int) < 0 := by omega
    by_cases hp0 : p = 0
    · subst hp0
      clear htl
      go_enter Tryz.func31, Tryz.ntmps31
      go_wp2_with (first | (go_at_call 53; with_reducible refine (z1 _ HT.out).mono ?_; rintro e w5 ⟨rfl, h5⟩; have H5 := Lib.hid h5; clear h5))
      go_ret
      refine ⟨?_, H5.out⟩
      rw [HD.out, ← HDQ.out, if_pos trivial, List.append_nil]
      exact congrArg Ending.returned (congrArg Value.string (cat_tx ([] : List UInt8) dq))
    · have hpI : ¬ (p : Int) = 0 := by omega
      have htl2 := htl hp0
      clear htl
      go_enter Tryz.func31, Tryz.ntmps31
      go_wp2_with (first | (go_at_call 53; with_reducible refine (z1 _ HT.out).mono ?_; rintro e w5 ⟨rfl, h5⟩; have H5 := Lib.hid h5; clear h5) | (go_at_call 53; with_reducible refine (z2 _ (tens_below HT.out H5.out)).mono ?_; rintro e w6 ⟨rfl, h6⟩; have H6 := Lib.hid (H5.out.trans (h6.mono H5.out.size)); clear h6) | (go_at_call 54; with_reducible refine (z3 _).mono ?_; rintro e w7 ⟨rfl, h7⟩; have H7 := Lib.hid (H6.out.trans (h7.mono H6.out.size)); clear h7))
      go_ret
      refine ⟨?_, H7.out⟩
      rw [HD.out, ← HDQ.out, if_neg hp0, ← HP.out hp0]
      refine congrArg Ending.returned ((congrArg Value.string (cat_dot ([] : List UInt8) dq tr)).trans ?_)
      rfl
end Dg
end Go.Proofs.YtdhelpbhbhihaaaGreatDoor
