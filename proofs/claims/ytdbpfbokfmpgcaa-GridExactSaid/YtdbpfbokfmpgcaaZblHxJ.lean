/-
HxJ: the document's grid: Cells.
-/
import Derived.Test.YtdbpfbokfmpgcaaZbhHxF
namespace Go.Proofs.Ytdbpfbokfmpgcaa
open Go.RowKit Go.Shelf
set_option linter.unusedVariables false
set_option linter.unusedSimpArgs false
set_option linter.ambiguousOpen false
attribute [local go_sem] Oper.semAt_some
namespace Gx
open Mem Gr Gs
/-- the new cells of a row from x on -/
def rowN (s : Int) (pre : List (Nat × Bx)) (b : Bx) (y x : Int) : List Cl := ((upto x (b.x1 / s)).map fun x => ((x, y) : Cl)).filter fun c => !old s pre c
def rowsN (s : Int) (pre : List (Nat × Bx)) (b : Bx) (y : Int) : List Cl := (upto y (b.y1 / s)).flatMap fun y => rowN s pre b y (b.x0 / s)
theorem rowsN_all (s : Int) (pre : List (Nat × Bx)) (b : Bx) : rowsN s pre b (b.y0 / s) = (coverL s b).filter fun c => !old s pre c := by
  unfold rowsN rowN coverL
  rw [List.filter_flatMap]
theorem rowsN_cons {s : Int} {pre : List (Nat × Bx)} {b : Bx} {y : Int} (h : y ≤ b.y1 / s) : rowsN s pre b y = rowN s pre b y (b.x0 / s) ++ rowsN s pre b (y + 1) := by
  unfold rowsN; rw [upto_cons h, List.flatMap_cons]
theorem rowsN_nil {s : Int} {pre : List (Nat × Bx)} {b : Bx} {y : Int} (h : b.y1 / s < y) : rowsN s pre b y = [] := by
  unfold rowsN; rw [upto_nil h]; rfl
theorem rowN_nil {s : Int} {pre : List (Nat × Bx)} {b : Bx} {y x : Int} (h : b.x1 / s < x) : rowN s pre b y x = [] := by
  unfold rowN; rw [upto_nil h]; rfl
theorem rowN_cons {s : Int} {pre : List (Nat × Bx)} {b : Bx} {y x : Int} (h : x ≤ b.x1 / s) : (rowN s pre b y x).length = (if old s pre (x, y) = true then 0 else 1) + (rowN s pre b y (x + 1)).length := by
  unfold rowN
  rw [upto_cons h, List.map_cons, List.filter_cons]
  cases old s pre (x, y)
  · simp; omega
  · simp
theorem rowN_le {s : Int} {pre : List (Nat × Bx)} {b : Bx} {y x : Int} (hs : 1 ≤ s) : (rowN s pre b y x).length ≤ (b.x1 / s - x + 1).toNat := by
  unfold rowN
  refine Nat.le_trans (List.length_filter_le _ _) ?_
  rw [List.length_map, upto_len]; omega
theorem old_step {s : Int} {L : List (Nat × Bx)} {j : Nat} {p : Nat × Bx} {c : Cl} (h : L[j]? = some p) : old s (L.take (j + 1)) c = (old s (L.take j) c || (decide (cnt s p.2 ≤ 1024) && decide (covers s p.2 c))) := by
  rw [take_at h]
  unfold old
  simp
theorem newC_le {s : Int} (hs : Size s) {pre : List (Nat × Bx)} {b : Bx} (hb : Right b) : (newC s pre b).length ≤ 1024 := by
  unfold newC
  split
  · simp
  · rename_i h
    have := coverL_len hs hb
    have := List.length_filter_le (fun c => !old s pre c) (coverL s b)
    omega
theorem allC_one (s : Int) (pre : List (Nat × Bx)) (p : Nat × Bx) : allC s pre [p] = newC s pre p.2 := by simp [allC]
theorem allC_le {s : Int} (hs : Size s) : ∀ (L pre : List (Nat × Bx)), (∀ p ∈ L, Right p.2) → (allC s pre L).length ≤ L.length * 1024
  | [], _, _ => by simp [allC]
  | p :: t, pre, h => by
    unfold allC
    have h1 := newC_le hs (pre := pre) (h p (by simp))
    have h2 := allC_le hs t (pre ++ [p]) (fun q hq => h q (by simp [hq]))
    rw [List.length_append, List.length_cons]
    omega
theorem allC_take {s : Int} {L : List (Nat × Bx)} {i : Nat} {p : Nat × Bx} (hp : L[i]? = some p) : allC s [] (L.take (i + 1)) = allC s [] (L.take i) ++ newC s (L.take i) p.2 := by
  rw [take_at hp, allC_app, List.nil_append, allC_one]
set_option maxHeartbeats 16000000 in
set_option maxRecDepth 100000 in
theorem cells_all (w : World) (R : Nat) (s : Int) (a : Option Addr) (cp : Nat) (L : List (Nat × Bx)) (h : RG w R s a cp L) (hs : Size s) (hl : L.length ≤ 100000) (hR : ∀ p ∈ L, Right p.2) :
    Calls Try.prog 31 #[.pointer (some ⟨R, 0, none⟩)] w fun e w' => e = .returned (.int .i64 ((allC s [] L).length : Int)) ∧ Keeps (fun _ => False) w w' := by
  obtain ⟨nL, hn⟩ : ∃ n : Nat, n = L.length := ⟨_, rfl⟩
  rw [← hn] at hl
  have hnI : (nL : Int) ≤ 100000 := by omega
  have bR := h.blk
  rw [← hn] at bR
  have HCE := Lib.hid (fun W (hk : Keeps (fun _ => False) w W) b (hb : Right b) => cells_r W R s _ (bR.keeps hk (fun h => h)) hs b hb)
  have HHA := Lib.hid (fun W (hk : Keeps (fun _ => False) w W) b (hb : Right b) c => has_r W R s _ (bR.keeps hk (fun h => h)) hs b hb c)
  have HN := Lib.hid hn
  have H := Lib.hid h
  have HR := Lib.hid (And.intro hs hR)
  clear hn h hl hR hs bR
  go_enter Try.func31, Try.ntmps31
  go_wp2
  go_loopw [3, 4, 5, 6, 7, 8, 9, 10] (fun k q _ _ _ _ _ _ wr => ∃ i : Nat, q = .int .i64 (i : Int) ∧ i ≤ nL ∧ k = .int .i64 ((allC s [] (L.take i)).length : Int) ∧ Keeps (fun _ => False) w wr) (fun _ q _ _ _ _ _ _ _ => nL - (intOf q).toNat)
  case atStart => exact ⟨0, rfl, Nat.zero_le _, rfl, Keeps.refl _ _⟩
  case round =>
    obtain ⟨i, rfl, hi, rfl, hK⟩ := hrel
    obtain ⟨n0, hn0⟩ : ∃ n0 : Nat, n0 = (allC s [] (L.take i)).length := ⟨_, rfl⟩
    have hb0 : n0 ≤ 102400000 := by
      have h1 := allC_le HR.out.1 (L.take i) [] (fun p hp => HR.out.2 p (List.mem_of_mem_take hp))
      have : (L.take i).length ≤ i := List.length_take_le _ _
      omega
    rw [← hn0]
    have HN0 := Lib.hid hn0
    have cR := (H.out.blk.keeps hK (fun h => h)).cell
    rw [← HN.out] at cR
    clear hn0
    by_cases hlt : i < nL
    · obtain ⟨p, hp⟩ : ∃ p, L[i]? = some p := ⟨_, List.getElem?_eq_getElem (by have := HN.out; omega)⟩
      have hRG := H.out.kd hK
      obtain ⟨g, rfl, -⟩ := hRG.row hp
      obtain ⟨-, c1, c2, c3, c4⟩ := hRG.five hp
      have hltI : (i : Int) < (nL : Int) := by omega
      have hRp := HR.out.2 p (List.mem_of_getElem? hp)
      have zc := HCE.out (wr.alloc (.cells #[.int .i32 p.2.x0, .int .i32 p.2.y0, .int .i32 p.2.x1, .int .i32 p.2.y1] 35)) (hK.alloc _) p.2 hRp
      obtain ⟨cn, hcn⟩ : ∃ cn, cn = cnt s p.2 := ⟨_, rfl⟩
      rw [← hcn] at zc
      have HZ := Lib.hid zc
      have HKR := Lib.hid hK
      have HP := Lib.hid (And.intro hp (And.intro hRp hcn))
      clear hp hRp zc hcn hK hRG
      by_cases hc : cn > 1024
      · have d1 : decide (cn > 1024) = true := decide_eq_true hc
        have d2 : decide (1024 < cn) = true := decide_eq_true hc
        have HC := Lib.hid hc
        clear hc
        go_wp2_with (go_at_call 21; (with_reducible refine HZ.out.mono ?_); rintro e w5 ⟨rfl, hk5⟩; have HK5 := Lib.hid ((HKR.out.alloc _).trans hk5); clear hk5)
        go_roundw
        case rel =>
          refine ⟨i + 1, by rw [Int.natCast_add]; rfl, by omega, ?_, HK5.out⟩
          have e1 : newC s (L.take i) p.2 = [] := by unfold newC; rw [if_pos (by rw [← HP.out.2.2]; exact HC.out)]
          rw [allC_take HP.out.1, e1, List.append_nil, ← HN0.out]
        case measure => simp only [intOf]; omega
      · have d1 : decide (cn > 1024) = false := decide_eq_false hc
        have d2 : decide (1024 < cn) = false := decide_eq_false hc
        have HC := Lib.hid hc
        clear hc
        have hRp := HP.out.2.1
        have o1 := fun w => floor_r p.2.y0 s w hRp.1.2.2.1 hRp.1.2.2.2 HR.out.1
        have o2 := fun w => floor_r p.2.y1 s w hRp.2.1.2.2.1 hRp.2.1.2.2.2 HR.out.1
        have o3 := fun w => floor_r p.2.x0 s w hRp.1.1 hRp.1.2.1 HR.out.1
        have o4 := fun w => floor_r p.2.x1 s w hRp.2.1.1 hRp.2.1.2.1 HR.out.1
        have q1 := quot_in HR.out.1.1 hRp.1.2.2.1 hRp.1.2.2.2
        have q2 := quot_in HR.out.1.1 hRp.2.1.2.2.1 hRp.2.1.2.2.2
        have q3 := quot_in HR.out.1.1 hRp.1.1 hRp.1.2.1
        have q4 := quot_in HR.out.1.1 hRp.2.1.1 hRp.2.1.2.1
        have m1 : p.2.y0 / s ≤ p.2.y1 / s := ediv_mono HR.out.1.1 hRp.2.2.2
        have m2 : p.2.x0 / s ≤ p.2.x1 / s := ediv_mono HR.out.1.1 hRp.2.2.1
        obtain ⟨ya, hya⟩ : ∃ q, q = p.2.y0 / s := ⟨_, rfl⟩
        obtain ⟨yb, hyb⟩ : ∃ q, q = p.2.y1 / s := ⟨_, rfl⟩
        obtain ⟨xa, hxa⟩ : ∃ q, q = p.2.x0 / s := ⟨_, rfl⟩
        obtain ⟨xb, hxb⟩ : ∃ q, q = p.2.x1 / s := ⟨_, rfl⟩
        rw [← hya] at o1 q1 m1
        rw [← hyb] at o2 q2 m1
        rw [← hxa] at o3 q3 m2
        rw [← hxb] at o4 q4 m2
        have HFL := Lib.hid (And.intro o1 (And.intro o2 (And.intro o3 o4)))
        have HQ := Lib.hid (And.intro hya (And.intro hyb (And.intro hxa hxb)))
        obtain ⟨T, hT⟩ : ∃ T : Nat, T = n0 + (rowsN s (L.take i) p.2 ya).length := ⟨_, rfl⟩
        have hTe : T = (allC s [] (L.take (i + 1))).length := by
          rw [hT, allC_take HP.out.1, List.length_append, ← HN0.out]
          unfold newC
          rw [if_neg (by rw [← HP.out.2.2]; exact HC.out), ← rowsN_all, hya]
        have hTb : T ≤ 102500000 := by
          have h1 := newC_le HR.out.1 (pre := L.take i) HP.out.2.1
          rw [hTe, allC_take HP.out.1, List.length_append, ← HN0.out]
          omega
        have HT := Lib.hid (And.intro hT hTe)
        clear hRp o1 o2 o3 o4 hya hyb hxa hxb hT hTe
        go_wp2_with (go_at_call 21; (with_reducible refine HZ.out.mono ?_); rintro e w5 ⟨rfl, hk5⟩; have HB5 := Lib.hid ((Blk.new wr 35 [.int .i32 p.2.x0, .int .i32 p.2.y0, .int .i32 p.2.x1, .int .i32 p.2.y1]).keeps hk5 (fun h => h)); have HK5 := Lib.hid ((HKR.out.alloc _).trans hk5); clear hk5)
        obtain ⟨B5, hB5⟩ : ∃ B, B = wr.heap.size := ⟨_, rfl⟩
        rw [← hB5]
        rw [← hB5] at HB5
        have bR5 := H.out.blk.keeps HK5.out (fun h => h)
        rw [← HN.out] at bR5
        have HSB := Lib.hid (show ∀ W', Keeps (fun _ => False) w5 W' → (∀ i : Nat, W'.cell? ⟨B5, i, none⟩ = ([.int .i32 p.2.x0, .int .i32 p.2.y0, .int .i32 p.2.x1, .int .i32 p.2.y1] : List Value)[i]?) ∧ (∀ i : Nat, W'.cell? ⟨R, i, none⟩ = ([.int .i64 s, .slice (some ⟨g, 0, none⟩) nL cp] : List Value)[i]?) from fun W' hk => ⟨(HB5.out.keeps hk (fun h => h)).cell, (bR5.keeps hk (fun h => h)).cell⟩)
        have HK0 := Lib.hid (Keeps.refl (fun _ => False) w5)
        clear hB5 cR c1 c2 c3 c4 bR5 d1 d2
        rename_i Kx hKx
        (go_region_held3 (fun W => (∀ i : Nat, W.cell? ⟨B5, i, none⟩ = ([.int .i32 p.2.x0, .int .i32 p.2.y0, .int .i32 p.2.x1, .int .i32 p.2.y1] : List Value)[i]?) ∧ (∀ i : Nat, W.cell? ⟨R, i, none⟩ = ([.int .i64 s, .slice (some ⟨g, 0, none⟩) nL cp] : List Value)[i]?)) (first | with_reducible assumption | exact HSB.out _ (by first | exact HK0.out | (refine HK0.out.trans ?_; (repeat (first | exact Keeps.refl _ _ | refine Keeps.alloc ?_ _ | refine Keeps.drew ?_))))) ((first | (go_at_call 20; (first | (with_reducible refine (HFL.out.1 _).mono ?_) | (with_reducible refine (HFL.out.2.1 _).mono ?_) | (with_reducible refine (HFL.out.2.2.1 _).mono ?_) | (with_reducible refine (HFL.out.2.2.2 _).mono ?_)); rintro e w7 ⟨rfl, rfl⟩))))
        refine hKx _ _ ?_
        clear hKx
        go_wp2
        go_loopw [3, 6, 7, 8, 9, 10] (fun k q _ _ _ _ wr => ∃ (kk : Nat) (y : Int), k = .int .i64 (kk : Int) ∧ q = .int .i64 y ∧ ya ≤ y ∧ y ≤ yb + 1 ∧ kk + (rowsN s (L.take i) p.2 y).length = T ∧ Keeps (fun _ => False) w5 wr) (fun _ q _ _ _ _ _ => (yb + 1 - intOf q).toNat)
        case atStart => exact ⟨n0, ya, rfl, rfl, Int.le_refl _, by omega, HT.out.1.symm, by (repeat (first | exact Keeps.refl _ _ | refine Keeps.alloc ?_ _ | refine Keeps.drew ?_))⟩
        case round =>
          obtain ⟨kk, y, rfl, rfl, hy1, hy2, hk, hKy⟩ := hrel
          have HKY := Lib.hid hKy
          have HKK := Lib.hid hk
          have uy : IntKind.i64.wrap (y + 1) = y + 1 := IntWalk.i64_in _ (by omega)
          clear hKy hk
          by_cases hy : y ≤ yb
          · have e1 : decide (y ≤ yb) = true := decide_eq_true hy
            go_wp2
            rename_i Kx hKx
            (go_region_held3 (fun W => (∀ i : Nat, W.cell? ⟨B5, i, none⟩ = ([.int .i32 p.2.x0, .int .i32 p.2.y0, .int .i32 p.2.x1, .int .i32 p.2.y1] : List Value)[i]?) ∧ (∀ i : Nat, W.cell? ⟨R, i, none⟩ = ([.int .i64 s, .slice (some ⟨g, 0, none⟩) nL cp] : List Value)[i]?)) (first | with_reducible assumption | exact HSB.out _ (by first | exact HKY.out | (refine HKY.out.trans ?_; (repeat (first | exact Keeps.refl _ _ | refine Keeps.alloc ?_ _ | refine Keeps.drew ?_))))) ((first | (go_at_call 20; (first | (with_reducible refine (HFL.out.1 _).mono ?_) | (with_reducible refine (HFL.out.2.1 _).mono ?_) | (with_reducible refine (HFL.out.2.2.1 _).mono ?_) | (with_reducible refine (HFL.out.2.2.2 _).mono ?_)); rintro e w7 ⟨rfl, rfl⟩))))
            refine hKx _ _ ?_
            clear hKx
            go_wp2
            rename_i Kx hKx
            (go_region_held3 (fun W => (∀ i : Nat, W.cell? ⟨B5, i, none⟩ = ([.int .i32 p.2.x0, .int .i32 p.2.y0, .int .i32 p.2.x1, .int .i32 p.2.y1] : List Value)[i]?) ∧ (∀ i : Nat, W.cell? ⟨R, i, none⟩ = ([.int .i64 s, .slice (some ⟨g, 0, none⟩) nL cp] : List Value)[i]?)) (first | with_reducible assumption | exact HSB.out _ (by first | exact HKY.out | (refine HKY.out.trans ?_; (repeat (first | exact Keeps.refl _ _ | refine Keeps.alloc ?_ _ | refine Keeps.drew ?_))))) ((first | (go_at_call 20; (first | (with_reducible refine (HFL.out.1 _).mono ?_) | (with_reducible refine (HFL.out.2.1 _).mono ?_) | (with_reducible refine (HFL.out.2.2.1 _).mono ?_) | (with_reducible refine (HFL.out.2.2.2 _).mono ?_)); rintro e w7 ⟨rfl, rfl⟩))))
            refine hKx _ _ ?_
            clear hKx
            go_wp2
            have vy : IntKind.i32.wrap y = y := IntWalk.i32_in _ (by omega)
            go_loopw [3, 7, 8, 9, 10] (fun k q _ _ _ wr => ∃ (k2 : Nat) (x : Int), k = .int .i64 (k2 : Int) ∧ q = .int .i64 x ∧ xa ≤ x ∧ x ≤ xb + 1 ∧ k2 + (rowN s (L.take i) p.2 y x).length + (rowsN s (L.take i) p.2 (y + 1)).length = T ∧ Keeps (fun _ => False) w5 wr) (fun _ q _ _ _ _ => (xb + 1 - intOf q).toNat)
            case atStart =>
              refine ⟨kk, xa, rfl, rfl, Int.le_refl _, by omega, ?_, by refine HKY.out.trans ?_; (repeat (first | exact Keeps.refl _ _ | refine Keeps.alloc ?_ _ | refine Keeps.drew ?_))⟩
              have h1 := HKK.out
              rw [rowsN_cons (by rw [← HQ.out.2.1]; exact hy), List.length_append] at h1
              rw [HQ.out.2.2.1]; omega
            case round =>
              obtain ⟨k2, x, rfl, rfl, hx1, hx2, hk2, hKx2⟩ := hrel
              have HKX := Lib.hid hKx2
              have HK2 := Lib.hid hk2
              have hk2b : (k2 : Int) ≤ 102500000 := by omega
              have ux : IntKind.i64.wrap (x + 1) = x + 1 := IntWalk.i64_in _ (by omega)
              clear hKx2 hk2
              by_cases hx : x ≤ xb
              · have f1 : decide (x ≤ xb) = true := decide_eq_true hx
                have vx : IntKind.i32.wrap x = x := IntWalk.i32_in _ (by omega)
                go_wp2
                rename_i Kx hKx
                (go_region_held3 (fun W => (∀ i : Nat, W.cell? ⟨B5, i, none⟩ = ([.int .i32 p.2.x0, .int .i32 p.2.y0, .int .i32 p.2.x1, .int .i32 p.2.y1] : List Value)[i]?) ∧ (∀ i : Nat, W.cell? ⟨R, i, none⟩ = ([.int .i64 s, .slice (some ⟨g, 0, none⟩) nL cp] : List Value)[i]?)) (first | with_reducible assumption | exact HSB.out _ (by first | exact HKX.out | (refine HKX.out.trans ?_; (repeat (first | exact Keeps.refl _ _ | refine Keeps.alloc ?_ _ | refine Keeps.drew ?_))))) ((first | (go_at_call 20; (first | (with_reducible refine (HFL.out.1 _).mono ?_) | (with_reducible refine (HFL.out.2.1 _).mono ?_) | (with_reducible refine (HFL.out.2.2.1 _).mono ?_) | (with_reducible refine (HFL.out.2.2.2 _).mono ?_)); rintro e w7 ⟨rfl, rfl⟩))))
                refine hKx _ _ ?_
                clear hKx
                go_wp2
                go_loopw [8, 9, 10] (fun f q _ wr => ∃ (j : Nat), f = .bool (!old s (L.take j) (x, y)) ∧ q = .int .i64 (j : Int) ∧ j ≤ i ∧ Keeps (fun _ => False) w5 wr) (fun _ q _ _ => i - (intOf q).toNat)
                case atStart => exact ⟨0, by simp [old], rfl, Nat.zero_le _, by refine HKX.out.trans ?_; (repeat (first | exact Keeps.refl _ _ | refine Keeps.alloc ?_ _ | refine Keeps.drew ?_))⟩
                case round =>
                  obtain ⟨j, rfl, rfl, hj, hKj⟩ := hrel
                  obtain ⟨fo, hfo⟩ : ∃ fo, fo = old s (L.take j) (x, y) := ⟨_, rfl⟩
                  rw [← hfo]
                  have HFO := Lib.hid hfo
                  have HKJ := Lib.hid hKj
                  clear hfo
                  by_cases hjl : j < i
                  · obtain ⟨p2, hp2⟩ : ∃ p, L[j]? = some p := ⟨_, List.getElem?_eq_getElem (by have := HN.out; omega)⟩
                    have hRG2 := H.out.kd (HK5.out.trans hKj)
                    obtain ⟨-, c1, c2, c3, c4⟩ := hRG2.five hp2
                    have cR := hRG2.blk.cell
                    rw [← HN.out] at cR
                    have hjI : (j : Int) < (i : Int) := by omega
                    have hjn : (j : Int) < (nL : Int) := by omega
                    have hRp2 := HR.out.2 p2 (List.mem_of_getElem? hp2)
                    have zc2 := HCE.out (wr.alloc (.cells #[.int .i32 p2.2.x0, .int .i32 p2.2.y0, .int .i32 p2.2.x1, .int .i32 p2.2.y1] 35)) ((HK5.out.trans hKj).alloc _) p2.2 hRp2
                    have zh2 := fun W (hk : Keeps (fun _ => False) w W) => HHA.out W hk p2.2 hRp2 (x, y) (by simp only; omega) (by simp only; omega) (by simp only; omega) (by simp only; omega)
                    obtain ⟨cn2, hcn2⟩ : ∃ cn, cn = cnt s p2.2 := ⟨_, rfl⟩
                    obtain ⟨cv, hcv⟩ : ∃ cv, cv = decide (covers s p2.2 (x, y)) := ⟨_, rfl⟩
                    rw [← hcn2] at zc2
                    rw [← hcv] at zh2
                    have HZ2 := Lib.hid (And.intro zc2 zh2)
                    have HST := Lib.hid (show old s (L.take (j + 1)) (x, y) = (fo || (decide (cn2 ≤ 1024) && cv)) by rw [old_step hp2, HFO.out, hcn2, hcv])
                    clear hp2 hRG2 hRp2 zc2 zh2 hcn2 hcv hKj
                    by_cases hc2 : cn2 ≤ 1024
                    · have g1 : decide (cn2 ≤ 1024) = true := decide_eq_true hc2
                      cases cv with
                      | true =>
                        go_wp2_with (first
                          | (go_at_call 21; (with_reducible refine HZ2.out.1.mono ?_); rintro e w8 ⟨rfl, hk8⟩; have HB8 := Lib.hid ((Blk.new wr 35 [.int .i32 p2.2.x0, .int .i32 p2.2.y0, .int .i32 p2.2.x1, .int .i32 p2.2.y1]).keeps hk8 (fun h => h)); have cB8 := HB8.out.cell; have HK8 := Lib.hid (((Keeps.refl (fun _ => False) wr).alloc _).trans hk8); clear hk8)
                          | (go_at_call 22; (with_reducible refine (HZ2.out.2 _ (HK5.out.trans (HKJ.out.trans HK8.out))).mono ?_); rintro e w9 ⟨rfl, hk9⟩; have HK9 := Lib.hid (HK8.out.trans hk9); clear hk9))
                        go_roundw
                        case rel => exact ⟨j + 1, by rw [HST.out, g1]; simp, by rw [Int.natCast_add]; rfl, by omega, HKJ.out.trans HK9.out⟩
                        case measure => simp only [intOf]; omega
                      | false =>
                        go_wp2_with (first
                          | (go_at_call 21; (with_reducible refine HZ2.out.1.mono ?_); rintro e w8 ⟨rfl, hk8⟩; have HB8 := Lib.hid ((Blk.new wr 35 [.int .i32 p2.2.x0, .int .i32 p2.2.y0, .int .i32 p2.2.x1, .int .i32 p2.2.y1]).keeps hk8 (fun h => h)); have cB8 := HB8.out.cell; have HK8 := Lib.hid (((Keeps.refl (fun _ => False) wr).alloc _).trans hk8); clear hk8)
                          | (go_at_call 22; (with_reducible refine (HZ2.out.2 _ (HK5.out.trans (HKJ.out.trans HK8.out))).mono ?_); rintro e w9 ⟨rfl, hk9⟩; have HK9 := Lib.hid (HK8.out.trans hk9); clear hk9))
                        go_roundw
                        case rel => exact ⟨j + 1, by rw [HST.out, g1]; simp, by rw [Int.natCast_add]; rfl, by omega, HKJ.out.trans HK9.out⟩
                        case measure => simp only [intOf]; omega
                    · have g1 : decide (cn2 ≤ 1024) = false := decide_eq_false hc2
                      clear hc2
                      go_wp2_with (first
                        | (go_at_call 21; (with_reducible refine HZ2.out.1.mono ?_); rintro e w8 ⟨rfl, hk8⟩; have HK8 := Lib.hid (((Keeps.refl (fun _ => False) wr).alloc _).trans hk8); clear hk8))
                      go_roundw
                      case rel => exact ⟨j + 1, by rw [HST.out, g1]; simp, by rw [Int.natCast_add]; rfl, by omega, HKJ.out.trans HK8.out⟩
                      case measure => simp only [intOf]; omega
                  · have hji : j = i := by omega
                    subst hji
                    clear hKj
                    have HRN := Lib.hid (rowN_cons (s := s) (pre := L.take j) (b := p.2) (y := y) (x := x) (by rw [← HQ.out.2.2.2]; exact hx))
                    cases fo with
                    | true =>
                      go_wp2
                      go_roundw
                      case rel =>
                        refine ⟨k2, x + 1, rfl, rfl, by omega, by omega, ?_, HKJ.out⟩
                        have h1 := HK2.out
                        rw [HRN.out, if_pos HFO.out.symm] at h1
                        omega
                      case measure => simp only [intOf]; omega
                    | false =>
                      go_wp2
                      go_roundw
                      case rel =>
                        refine ⟨k2 + 1, x + 1, by rw [Int.natCast_add]; rfl, rfl, by omega, by omega, ?_, HKJ.out⟩
                        have h1 := HK2.out
                        rw [HRN.out, if_neg (by rw [← HFO.out]; simp)] at h1
                        omega
                      case measure => simp only [intOf]; omega
              · have f1 : decide (x ≤ xb) = false := decide_eq_false hx
                have HXX := Lib.hid hx
                clear hx
                go_wp2
                rename_i Kx hKx
                (go_region_held3 (fun W => (∀ i : Nat, W.cell? ⟨B5, i, none⟩ = ([.int .i32 p.2.x0, .int .i32 p.2.y0, .int .i32 p.2.x1, .int .i32 p.2.y1] : List Value)[i]?) ∧ (∀ i : Nat, W.cell? ⟨R, i, none⟩ = ([.int .i64 s, .slice (some ⟨g, 0, none⟩) nL cp] : List Value)[i]?)) (first | with_reducible assumption | exact HSB.out _ (by first | exact HKX.out | (refine HKX.out.trans ?_; (repeat (first | exact Keeps.refl _ _ | refine Keeps.alloc ?_ _ | refine Keeps.drew ?_))))) ((first | (go_at_call 20; (first | (with_reducible refine (HFL.out.1 _).mono ?_) | (with_reducible refine (HFL.out.2.1 _).mono ?_) | (with_reducible refine (HFL.out.2.2.1 _).mono ?_) | (with_reducible refine (HFL.out.2.2.2 _).mono ?_)); rintro e w7 ⟨rfl, rfl⟩))))
                refine hKx _ _ ?_
                clear hKx
                go_wp2
                go_roundw
                case rel =>
                  refine ⟨k2, y + 1, rfl, rfl, by omega, by omega, ?_, by refine HKX.out.trans ?_; (repeat (first | exact Keeps.refl _ _ | refine Keeps.alloc ?_ _ | refine Keeps.drew ?_))⟩
                  have h1 := HK2.out
                  rw [rowN_nil (by rw [← HQ.out.2.2.2]; have := HXX.out; omega)] at h1
                  simpa using h1
                case measure => simp only [intOf]; omega
          · have e1 : decide (y ≤ yb) = false := decide_eq_false hy
            have HYY := Lib.hid hy
            clear hy
            go_wp2
            rename_i Kx hKx
            (go_region_held3 (fun W => (∀ i : Nat, W.cell? ⟨B5, i, none⟩ = ([.int .i32 p.2.x0, .int .i32 p.2.y0, .int .i32 p.2.x1, .int .i32 p.2.y1] : List Value)[i]?) ∧ (∀ i : Nat, W.cell? ⟨R, i, none⟩ = ([.int .i64 s, .slice (some ⟨g, 0, none⟩) nL cp] : List Value)[i]?)) (first | with_reducible assumption | exact HSB.out _ (by first | exact HKY.out | (refine HKY.out.trans ?_; (repeat (first | exact Keeps.refl _ _ | refine Keeps.alloc ?_ _ | refine Keeps.drew ?_))))) ((first | (go_at_call 20; (first | (with_reducible refine (HFL.out.1 _).mono ?_) | (with_reducible refine (HFL.out.2.1 _).mono ?_) | (with_reducible refine (HFL.out.2.2.1 _).mono ?_) | (with_reducible refine (HFL.out.2.2.2 _).mono ?_)); rintro e w7 ⟨rfl, rfl⟩))))
            refine hKx _ _ ?_
            clear hKx
            go_wp2
            go_roundw
            case rel =>
              have h1 := HKK.out
              rw [rowsN_nil (by rw [← HQ.out.2.1]; have := HYY.out; omega)] at h1
              refine ⟨i + 1, by rw [Int.natCast_add]; rfl, by omega, ?_, HK5.out.trans (by refine HKY.out.trans ?_; (repeat (first | exact Keeps.refl _ _ | refine Keeps.alloc ?_ _ | refine Keeps.drew ?_)))⟩
              rw [← HT.out.2]
              simp only [List.length_nil, Nat.add_zero] at h1
              rw [h1]
            case measure => simp only [intOf]; omega
    · obtain rfl : i = nL := by omega
      have HE := Lib.hid (show n0 = (allC s [] L).length by have := HN0.out; rw [HN.out, List.take_length] at this; exact this)
      have HKR := Lib.hid hK
      clear hK
      go_wp2
      go_ret
      refine ⟨?_, HKR.out⟩
      have e := HE.out
      subst e
      rfl
end Gx
end Go.Proofs.Ytdbpfbokfmpgcaa
