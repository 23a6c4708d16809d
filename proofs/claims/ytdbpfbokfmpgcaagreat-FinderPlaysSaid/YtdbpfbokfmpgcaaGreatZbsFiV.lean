/-
FiV: lives.
-/
import Derived.Test.YtdbpfbokfmpgcaaGreatZbrFiRFiSFiTFiU
import Derived.Test.YtdbpfbokfmpgcaaGreatZaaMemIterTreeAHeldGrowIter
import Derived.Deep.RegionHeld
set_option linter.unusedVariables false
set_option linter.unusedSimpArgs false
set_option linter.ambiguousOpen false
set_option maxHeartbeats 16000000
attribute [local go_sem] Go.Oper.semAt_some
namespace Go.Proofs.YtdbpfbokfmpgcaaGreat
theorem ZAN {p : Prop} (h : p := by cases e <;> first | exact h | exact h.elim) : p := h
theorem ZAU {p : Prop} (h : p := by (refine HK6.out.trans ?_; (repeat (first | exact Keeps.refl _ _ | refine Keeps.alloc ?_ _ | refine Keeps.drew ?_)))) : p := h
theorem ZAe {p : Prop} (h : p := by (refine HK7.out.trans ?_; (repeat (first | exact Keeps.refl _ _ | refine Keeps.alloc ?_ _ | refine Keeps.drew ?_)))) : p := h
theorem ZA3 {p : Prop} (h : p := by (refine HK11.out.trans ?_; (repeat (first | exact Keeps.refl _ _ | refine Keeps.alloc ?_ _ | refine Keeps.drew ?_)))) : p := h
theorem ZB {p : Prop} (h : p := by
 refine hK _ _ trivial ?_
 clear hK
 try simp only [y0, y1, y2, y3, y4, y5, y6]
 refine anyH_one 8 ZAB rfl ZAP (fun K hK => ?_)
 go_simp
 go_at_call 11
 (with_reducible refine (same7 (by first | exact HU.out | exact U32s_kd HU.out Z4) (by first | exact Blk.new _ _ _ | exact (Blk.new _ _ _).keeps HB8.out (fun h => h) | exact ((Blk.new _ _ _).keeps HB7.out (fun h => h)).keeps HB8.out (fun h => h) | (have h0 := Blk.new w5.drew 35 [.int .u32 7]; simp only [World.size_drew] at h0; exact ((h0.keeps HB6.out (fun h => h)).keeps HB7.out (fun h => h)).keeps HB8.out (fun h => h)))).mono ?_)
 rintro e w9 ⟨rfl, k9⟩
 have HB9 := Lib.hid k9; have HK9 := Lib.hid (show Keeps (fun _ => False) w5 w9 from Keeps.trans (by (refine HK8.out.trans ?_; exact Z4)) k9); clear k9
 refine hK _ _ trivial ?_
 clear hK
 try simp only [y0, y1, y2, y3, y4, y5, y6]
 refine tK 9 trivial ?_
 refine tK 10 trivial ?_
 refine tK 11 trivial ?_
 refine tK 13 trivial ?_
 refine tK 14 trivial ?_
 refine tK 15 trivial ?_
 refine anyH_one 12 ZAB rfl ZAP (fun K hK => ?_)
 go_simp
 go_at_call 19
 (with_reducible refine (fat_t _ _ _).mono ?_)
 rintro e w11 ⟨rfl, k11⟩
 have HB11 := Lib.hid k11; have HK11 := Lib.hid (show Keeps (fun _ => False) w5 w11 from Keeps.trans (by (refine HK9.out.trans ?_; exact Z4)) k11); clear k11
 refine hK _ _ trivial ?_
 clear hK
 try simp only [y0, y1, y2, y3, y4, y5, y6]
 refine anyH_one 16 ZAB rfl ZAP (fun K hK => ?_)
 go_simp
 (with_reducible refine (HA.out _ ZA3 _ _).mono ?_)
 rintro e w12 ⟨VB12, V, rfl, k12, hv, ha⟩
 obtain rfl := ans54 ha
 have HV0 := Lib.hid hv
 clear hv ha
 have HB12 := Lib.hid k12; have HK12 := Lib.hid (show Keeps (fun _ => False) w5 w12 from Keeps.trans ZA3 k12); clear k12
 refine hK _ _ trivial ?_
 clear hK
 try simp only [y0, y1, y2, y3, y4, y5, y6]
 refine anyH_one 17 ZAB rfl ZAP (fun K hK => ?_)
 go_simp
 go_at_call 12
 (with_reducible refine (told_none (vals_kd HV0.out Z4)).mono ?_)
 rintro e w13 ⟨a0, c0, rfl, k13⟩
 have HB13 := Lib.hid k13; have HK13 := Lib.hid (show Keeps (fun _ => False) w5 w13 from Keeps.trans (by (refine HK12.out.trans ?_; exact Z4)) k13); clear k13
 refine hK _ _ trivial ?_
 clear hK
 try simp only [y0, y1, y2, y3, y4, y5, y6]
 refine tK 18 trivial ?_
 refine tK 19 trivial ?_
 refine tK 20 trivial ?_
 refine wpAnyH_done ZAB ?_ _
 refine hKx _ _ ?_
 clear hKx
 go_wp2
 go_roundw
 case rel => exact ⟨i + 1, Z8, Z8, ZAl, HK5.out.trans HK13.out⟩
 case measure => simp [intOf]; omega) : p := h
theorem ZU {p : Prop} (h : p := by
 refine hK _ _ trivial ?_
 clear hK
 try simp only [y0, y1, y2, y3, y4, y5, y6]
 refine anyH_one 5 ZAB rfl ZAP (fun K hK => ?_)
 go_simp
 (with_reducible refine (HA.out _ ZAU _ _).mono ?_)
 rintro e w7 ⟨VB7, V, rfl, k7, hv, ha⟩
 obtain rfl := ans44 ha
 have HV7 := Lib.hid hv
 clear hv ha
 have HB7 := Lib.hid k7; have HK7 := Lib.hid (show Keeps (fun _ => False) w5 w7 from Keeps.trans ZAU k7); clear k7
 refine hK _ _ trivial ?_
 clear hK
 try simp only [y0, y1, y2, y3, y4, y5, y6]
 refine anyH_one 6 ZAB rfl ZAP (fun K hK => ?_)
 go_simp
 go_at_call 12
 (with_reducible refine (told_seven (vals_kd HV7.out Z4)).mono ?_)
 rintro e w8 ⟨u, rfl, hu, k8⟩
 have HU := Lib.hid hu
 clear hu
 have HB8 := Lib.hid k8; have HK8 := Lib.hid (show Keeps (fun _ => False) w5 w8 from Keeps.trans ZAe k8); clear k8
 exact ZB) : p := h
open Go.RowKit Go.Shelf
namespace Fi
open Mem Gr Gs
open So (vals)
section
variable {P : Program} {md : Region.Mode} {ops : Array Oper} {Q : Exit → Act → World → Prop} {S : World → Prop}
theorem anyH_two (i j : Nat) {oi oj : Oper} {fuel : Nat} {listed : Array Bool} {a : Act} {w : World} (hr : Region.ready md ops listed = [i, j]) (hoi : ops[i]? = some oi) (hwi : Region.wanted oi (yielded ops a.tmps) = true) (hoj : ops[j]? = some oj) (hwj : Region.wanted oj (yielded ops a.tmps) = true)
 (h : ∀ K' : Act → World → Prop, (∀ a' w', S w' → wpAnyH P md ops Q S fuel (listed.setIfInBounds i true) a' w' → K' a' w') → Oper.wp P oi a w K' Q)
 (h2 : ∀ K' : Act → World → Prop, (∀ a' w', S w' → wpAnyH P md ops Q S fuel (listed.setIfInBounds j true) a' w' → K' a' w') → Oper.wp P oj a w K' Q) : wpAnyH P md ops Q S (fuel + 1) listed a w :=
 wpAnyH_ready hr ZA7 (AllReadyH.cons hoi (fun K hK => by rw [if_pos hwi]; exact h K (fun a w hS hW => hK.out a w hS (fun _ => hW))) (AllReadyH.cons hoj (fun K hK => by rw [if_pos hwj]; exact h2 K (fun a w hS hW => hK.out a w hS (fun _ => hW))) AllReadyH.nil))
end
section
variable {P : Program} {md : Region.Mode} {ops : Array Oper} {Q : Exit → Act → World → Prop} {S : World → Prop}
theorem tk {K0 : Act → World → Prop} (i : Nat) {oi : Oper} {v : Value} {fuel : Nat} {listed : Array Bool} {a : Act} {w : World} (hi : ops[i]? = some oi) (hc : (Region.noSelect ops && Region.free md ops listed i && (Region.ready md ops listed).contains i) = true)
 (hw : Region.wanted oi (yielded ops a.tmps) = true) (hS : S w) (hy : ∀ w, S w → (execOp a.eval oi).run P w = .ok (.value v) w) (h : wpAnyH P md ops (Exit.then K0 (fun _ _ _ => False)) S fuel (listed.setIfInBounds i true) (a.put oi.dst v) w) : wpAnyH P md ops (Exit.then K0 (fun _ _ _ => False)) S (fuel + 1) listed a w := by
 simp only [Bool.and_eq_true] at hc
 exact wpAnyH_take hi hc.1.1 hc.1.2 hc.2 (fun _ _ _ h => False.elim h) (.inl ⟨hw, hy⟩) hS h
theorem sk {K0 : Act → World → Prop} (i : Nat) {oi : Oper} {fuel : Nat} {listed : Array Bool} {a : Act} {w : World} (hi : ops[i]? = some oi) (hc : (Region.noSelect ops && Region.free md ops listed i && (Region.ready md ops listed).contains i) = true)
 (hw : Region.wanted oi (yielded ops a.tmps) = false) (hS : S w) (h : wpAnyH P md ops (Exit.then K0 (fun _ _ _ => False)) S fuel (listed.setIfInBounds i true) (a.put oi.dst undef) w) : wpAnyH P md ops (Exit.then K0 (fun _ _ _ => False)) S (fuel + 1) listed a w := by
 simp only [Bool.and_eq_true] at hc
 exact wpAnyH_take hi hc.1.1 hc.1.2 hc.2 (fun _ _ _ h => False.elim h) (.inr ⟨hw, rfl⟩) hS h
end
section
variable {α : Type} {l : List α} {x y : α} {n : Nat}
theorem y0 (l : List Value) (d : List Deferred) (i : Nat) (v : Value) : Act.put ⟨⟨l⟩, d⟩ (some i) v = ⟨⟨l.set i v⟩, d⟩ := by simp [Act.put]
theorem y1 (h : n < l.toArray.size) : l.toArray[n] = l[n]'(by simpa using h) := List.getElem_toArray h
theorem y2 (h : n + 1 < (x :: l).length) : (x :: l)[n + 1] = l[n]'(by simpa using h) := rfl
theorem y3 (h : 0 < (x :: l).length) : (x :: l)[0] = x := rfl
theorem y4 : l.toArray.setIfInBounds n x = (l.set n x).toArray := by simp
theorem y5 : (x :: l).set 0 y = y :: l := rfl
theorem y6 : (x :: l).set (n + 1) y = x :: l.set n y := rfl
end
section
variable {P : Program} {md : Region.Mode} {ops : Array Oper} {Q : Exit → Act → World → Prop} {S : World → Prop}
theorem tK {K0 : Act → World → Prop} (i : Nat) {oi : Oper} {v : Value} {fuel : Nat} {listed : Array Bool} {a a' : Act} {w : World} (hS : S w) (h : wpAnyH P md ops (Exit.then K0 (fun _ _ _ => False)) S fuel (listed.setIfInBounds i true) a' w)
 (hi : ops[i]? = some oi := by rfl) (hc : (Region.noSelect ops && Region.free md ops listed i && (Region.ready md ops listed).contains i) = true := by kernel_rfl)
 (hw : Region.wanted oi (yielded ops a.tmps) = true := by kernel_rfl) (hy : ∀ w, S w → (execOp a.eval oi).run P w = .ok (.value v) w := by (rintro w hSw; (try dsimp only at hSw); go_simp; (try with_reducible rfl))) (ha : a.put oi.dst v = a' := by (simp only [y0, y1, y2, y3, y4, y5, y6]; rfl)) : wpAnyH P md ops (Exit.then K0 (fun _ _ _ => False)) S (fuel + 1) listed a w := tk i hi hc hw hS hy (ha ▸ h)
end
theorem nilS (a : Addr) (W : World) : (nilAhead 317 63 (.pointer (some a)) "Put").run Tryz.prog W = .ok (some false) W ∧ (nilAhead 317 63 (.pointer (some a)) "At").run Tryz.prog W = .ok (some false) W := ⟨ZAB, ZAB⟩
theorem nilV (a : Addr) (W : World) : (nilAhead 317 67 (.pointer (some a)) "Put").run Tryz.prog W = .ok (some false) W ∧ (nilAhead 317 67 (.pointer (some a)) "At").run Tryz.prog W = .ok (some false) W := ⟨ZAB, ZAB⟩
theorem Fd.nils {w : World} {v : Value} {F : Nat → Prop} {L : List (Nat × Bx)} (h : Fd w v F L) {t : TypeId} {B : Nat} (hv : v = .iface t (.pointer (some ⟨B, 0, none⟩))) : ∀ W, (nilAhead 317 t (.pointer (some ⟨B, 0, none⟩)) "Put").run Tryz.prog W = .ok (some false) W ∧ (nilAhead 317 t (.pointer (some ⟨B, 0, none⟩)) "At").run Tryz.prog W = .ok (some false) W := by
 rcases h with ⟨B', r, rfl, _⟩ | ⟨B', r, G, s, FG, rfl, _⟩ | ⟨B', r, T, FT, Lt, rfl, _⟩
 ·obtain ⟨rfl, e⟩ := Value.iface.inj hv
  intro W; rw [← e]; exact nilS _ W
 ·obtain ⟨rfl, e⟩ := Value.iface.inj hv
  intro W; rw [← e]; exact nilV _ W
 ·obtain ⟨rfl, e⟩ := Value.iface.inj hv
  intro W; rw [← e]; exact nilV _ W
theorem eq_nil (t : TypeId) (v : Value) (W : World) : (binOp .eql 24 (.iface t v) .nilIface).run Tryz.prog W = .ok (.bool false) W := by kernel_rfl
theorem fat_t (x y : Int) (w : World) : Calls Tryz.prog 19 #[.int .i32 x, .int .i32 y] w (Gave (.agg #[.int .i32 x, .int .i32 y]) w) := by
 go_enter Tryz.func19, Tryz.ntmps19
 go_wp2
 exact bodyPost_ret (results_cell_row rfl _ _ w.heap.size 37 #[.int .i32 x, .int .i32 y] _ _ rfl (by have := Blk.new w 37 [.int .i32 x, .int .i32 y]; simpa [Blk] using this) Tryz.underlying37 rfl ZAB) rfl ⟨rfl, Z4⟩
def b44 : Bx := ⟨0, 0, 4, 4⟩
theorem put44 : putF [] 7 b44 = (0, [(7, b44)]) := by
 have hb : Right b44 := by decide
 simp [putF, hb, hasB]
theorem ok44 : OkL [(7, b44)] := by have := OkL.nil.put (id := 7) Z8 b44; rw [put44] at this; exact this
theorem ans44 {V : List Nat} (h : Ans [(7, b44)] (coversP 4 4) V) : V = [7] :=
 h.one ⟨ZA7, fun id => ⟨fun h => ⟨b44, by simpa using h, ZAH⟩, fun ⟨b, hb, _⟩ => by simp at hb; simp [hb.1]⟩⟩
theorem ans54 {V : List Nat} (h : Ans [(7, b44)] (coversP 5 4) V) : V = [] :=
 h.one ⟨ZA7, fun id => ⟨fun h => by simp at h, fun ⟨b, hb, hc⟩ => by
  simp at hb
  obtain ⟨_, rfl⟩ := hb
  exact absurd hc ZAH⟩⟩
theorem U32s_kd {w w' : World} {v : Value} {xs : List Nat} (h : Tree.U32s w v xs) (hk : Keeps (fun _ => False) w w') : Tree.U32s w' v xs := by
 obtain ⟨a, c, e, h⟩ := h
 exact ⟨a, c, e, fun i x hx => by
  obtain ⟨b, off, h1, h2⟩ := h i x hx
  exact ⟨b, off, h1, hk.cell (p := ⟨b, off + i, none⟩) h2 (fun h => h)⟩⟩
theorem same7 {W : World} {u : Value} {g : Nat} (hu : Tree.U32s W u [7]) (hb : Blk W g 35 [.int .u32 7]) : Calls Tryz.prog 11 #[u, .slice (some ⟨g, 0, none⟩) 1 1] W (Gave (.bool true) W) := by
 refine (Tree.same_t _ _ [7] [7] _ hu ⟨some ⟨g, 0, none⟩, 1, rfl, fun i x hx => ?_⟩ ZAH ZAH).mono ?_
 ·have hi : i = 0 := by
   rcases i with _ | i
   ·rfl
   ·simp at hx
  subst hi
  simp at hx
  subst hx
  exact ⟨_, _, rfl, hb.cell 0⟩
 ·rintro e w' ⟨rfl, hk⟩
  exact ⟨rfl, hk⟩
theorem told_seven {w : World} {base VB : Nat} (hV : Vals base w VB [7]) : Calls Tryz.prog 12 #[.func (.func 92) #[] #[.pointer (some ⟨VB, 0, none⟩)], .int .i64 0] w fun e w' => ∃ v, e = .returned v ∧ Tree.U32s w' v [7] ∧ Keeps (fun _ => False) w w' := told_vals hV ZA7
theorem told_none {w : World} {base VB : Nat} (hV : Vals base w VB []) : Calls Tryz.prog 12 #[.func (.func 92) #[] #[.pointer (some ⟨VB, 0, none⟩)], .int .i64 0] w fun e w' => ∃ a c, e = .returned (.slice a 0 c) ∧ Keeps (fun _ => False) w w' := by
 refine (told_vals hV ZA7).mono ?_
 rintro e w' ⟨v, rfl, ⟨a, c, rfl, _⟩, hk⟩
 exact ⟨a, c, rfl, hk⟩
theorem lives_t (w : World) : Calls Tryz.prog 7 #[] w (Gave (.bool true) w) := by
 go_enter Tryz.func7, Tryz.ntmps7
 go_wp2
 go_loopw [1] (fun p wr => ∃ i : Int, 0 ≤ i ∧ i ≤ 3 ∧ p = .int .i64 i ∧ Keeps (fun _ => False) w wr) (fun p _ => (3 - intOf p).toNat)
 case atStart => exact ⟨0, Z8, Z8, rfl, Keeps.refl _ _⟩
 case round =>
  obtain ⟨i, hi0, hi3, rfl, hk⟩ := hrel
  by_cases hlt : i < 3
  ·have hs5 : Size 5 := by decide
   have HN := Lib.hid (show ∀ W, Calls Tryz.prog 5 #[.int .i64 i, .int .i64 5] W (NewP W) from fun W => by
    have : i = 0 ∨ i = 1 ∨ i = 2 := by omega
    rcases this with rfl | rfl | rfl
    ·exact new_scan 5 hs5 W
    ·exact new_grid 5 hs5 W
    ·exact new_tree 5 hs5 W)
   have HK := Lib.hid hk
   clear hk hs5
   have heq := eq_nil
   go_wp2_with (go_at_call 5; (with_reducible refine (HN.out _).mono ?_); rintro e w3 ⟨v, F, rfl, hF, k3, hFl⟩; obtain ⟨t, B, fP, fD, hC⟩ := Fd.chg hF OkL.nil; obtain ⟨hn1, hn2⟩ : (∀ W, (nilAhead 317 t (.pointer (some ⟨B, 0, none⟩)) "Put").run Tryz.prog W = .ok (some false) W) ∧ (∀ W, (nilAhead 317 t (.pointer (some ⟨B, 0, none⟩)) "At").run Tryz.prog W = .ok (some false) W) := ⟨fun W => (Fd.nils hF hC.val W).1, fun W => (Fd.nils hF hC.val W).2⟩; have hv := hC.val; have hm := hC.mP; have en := hC.enP; have HK3 := Lib.hid (HK.out.trans k3); have HFl := Lib.hid hFl; have HP := Lib.hid (show ∀ W, Keeps (fun _ => False) w3 W → Calls Tryz.prog fP #[.pointer (some ⟨B, 0, none⟩), .int .u32 7, .agg #[.int .i32 0, .int .i32 0, .int .i32 4, .int .i32 4]] W (DidF v F (0, [(7, b44)]) W) from fun W k => (by have := hC.aP W k 7 b44 Z8; rw [put44] at this; exact this)); subst hv; clear hC hF k3 hFl)
   rename_i Kx hKx
   refine wp_mono (Q := Exit.then Kx (fun _ _ _ => False)) ?_ (fun e a w h => ZAN)
   refine wp_region_held_drew (S := fun _ => True) ZAB trivial (fun hS0 => ?_)
   refine tK 0 trivial ?_
   refine tK 1 trivial ?_
   refine tK 2 trivial ?_
   refine tK 3 trivial ?_
   refine tK 4 trivial ?_
   refine tK 5 trivial ?_
   refine tK 6 trivial ?_
   refine tK 7 trivial ?_
   refine tK 10 trivial ?_
   refine tK 11 trivial ?_
   refine tK 12 trivial ?_
   refine anyH_one 8 ZAB rfl ZAP (fun K hK => ?_)
   go_simp
   go_at_call 19
   (with_reducible refine (fat_t _ _ _).mono ?_)
   rintro e w4 ⟨rfl, k4⟩
   have HK4 := Lib.hid (show Keeps (fun _ => False) w3 w4 from Keeps.trans Z4 k4)
   clear k4
   refine hK _ _ trivial ?_
   clear hK
   try simp only [y0, y1, y2, y3, y4, y5, y6]
   refine tK 9 trivial ?_
   refine anyH_one 13 ZAB rfl ZAP (fun K hK => ?_)
   go_simp
   (with_reducible refine (HP.out _ (by exact HK4.out)).mono ?_)
   rintro e w5 ⟨rfl, hd⟩
   have HD := Lib.hid hd
   clear hd
   refine hK _ _ trivial ?_
   clear hK
   try simp only [y0, y1, y2, y3, y4, y5, y6]
   refine tK 14 trivial ?_
   refine tK 15 trivial ?_
   refine wpAnyH_done ZAB ?_ _
   refine hKx _ _ ?_
   clear hKx
   obtain ⟨F', hf, hFd⟩ := HD.out
   have HK5 := Lib.hid (show Keeps (fun _ => False) w w5 from (HK3.out.trans HK4.out).then hf.1 (fun x hx hF => by have := HFl.out x hF; have := HK.out.size; omega))
   obtain ⟨t', B', fA, fC, fL, rL, hA⟩ := hFd.asks ok44
   obtain ⟨rfl, hB⟩ := Value.iface.inj hA.val
   have hB := hB.symm
   simp only [Value.pointer.injEq, Option.some.injEq, Addr.mk.injEq, and_true] at hB
   subst hB
   have hmA := hA.mA
   have enA := hA.enA
   have HA := Lib.hid (fun W (k : Keeps (fun _ => False) w5 W) => hA.aA W k)
   clear hFd hA hf hm en
   go_wp2
   rename_i Kx hKx
   refine wp_mono (Q := Exit.then Kx (fun _ _ _ => False)) ?_ (fun e a w h => ZAN)
   refine wp_region_held_drew (S := fun _ => True) ZAB trivial (fun hS0 => ?_)
   refine tK 0 trivial ?_
   refine tK 2 trivial ?_
   refine tK 3 trivial ?_
   refine tK 4 trivial ?_
   refine anyH_two 1 7 ZAB rfl ZAP rfl ZAP (fun K hK => ?_) (fun K hK => ?_)
   ·go_simp
    go_at_call 19
    (with_reducible refine (fat_t _ _ _).mono ?_)
    rintro e w6 ⟨rfl, k6⟩
    have HB6 := Lib.hid k6; have HK6 := Lib.hid (show Keeps (fun _ => False) w5 w6 from Keeps.trans Z4 k6); clear k6
    refine hK _ _ trivial ?_
    clear hK
    try simp only [y0, y1, y2, y3, y4, y5, y6]
    refine anyH_two 5 7 ZAB rfl ZAP rfl ZAP (fun K hK => ?_) (fun K hK => ?_)
    ·go_simp
     (with_reducible refine (HA.out _ ZAU _ _).mono ?_)
     rintro e w7 ⟨VB7, V, rfl, k7, hv, ha⟩
     obtain rfl := ans44 ha
     have HV7 := Lib.hid hv
     clear hv ha
     have HB7 := Lib.hid k7; have HK7 := Lib.hid (show Keeps (fun _ => False) w5 w7 from Keeps.trans ZAU k7); clear k7
     refine hK _ _ trivial ?_
     clear hK
     try simp only [y0, y1, y2, y3, y4, y5, y6]
     refine anyH_two 6 7 ZAB rfl ZAP rfl ZAP (fun K hK => ?_) (fun K hK => ?_)
     ·go_simp
      go_at_call 12
      (with_reducible refine (told_seven (vals_kd HV7.out Z4)).mono ?_)
      rintro e w8 ⟨u, rfl, hu, k8⟩
      have HU := Lib.hid hu
      clear hu
      have HB8 := Lib.hid k8; have HK8 := Lib.hid (show Keeps (fun _ => False) w5 w8 from Keeps.trans ZAe k8); clear k8
      refine hK _ _ trivial ?_
      clear hK
      try simp only [y0, y1, y2, y3, y4, y5, y6]
      refine anyH_one 7 ZAB rfl ZAP (fun K hK => ?_)
      go_simp
      exact ZB
     ·go_simp
      refine hK _ _ trivial ?_
      clear hK
      try simp only [y0, y1, y2, y3, y4, y5, y6]
      refine anyH_one 6 ZAB rfl ZAP (fun K hK => ?_)
      go_simp
      go_at_call 12
      (with_reducible refine (told_seven (vals_kd HV7.out Z4)).mono ?_)
      rintro e w8 ⟨u, rfl, hu, k8⟩
      have HU := Lib.hid hu
      clear hu
      have HB8 := Lib.hid k8; have HK8 := Lib.hid (show Keeps (fun _ => False) w5 w8 from Keeps.trans ZAe k8); clear k8
      exact ZB
    ·go_simp
     exact ZU
   ·go_simp
    refine hK _ _ trivial ?_
    clear hK
    try simp only [y0, y1, y2, y3, y4, y5, y6]
    refine anyH_one 1 ZAB rfl ZAP (fun K hK => ?_)
    go_simp
    go_at_call 19
    (with_reducible refine (fat_t _ _ _).mono ?_)
    rintro e w6 ⟨rfl, k6⟩
    have HB6 := Lib.hid k6; have HK6 := Lib.hid (show Keeps (fun _ => False) w5 w6 from Keeps.trans Z4 k6); clear k6
    exact ZU
  ·obtain rfl : i = 3 := by omega
   have HK := Lib.hid hk
   clear hk
   go_wp2
   go_ret
   exact ⟨rfl, HK.out⟩
end Fi
end Go.Proofs.YtdbpfbokfmpgcaaGreat
