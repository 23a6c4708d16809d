/-
HxF: the document's grid: At.
-/
import Derived.Test.YtdbpfbokfmpgcaaZbgAppHxDHxE
namespace Go.Proofs.Ytdbpfbokfmpgcaa
open Go.RowKit Go.Shelf
set_option linter.unusedVariables false
set_option linter.unusedSimpArgs false
set_option linter.ambiguousOpen false
attribute [local go_sem] Oper.semAt_some
namespace Gx
open Mem Gr Gs
theorem frames74 {P : Act → Prop} (hP : ∀ u0 u1 u2 u3 u4 u5 u6 u7 u8 u9 u10 u11 u12 u13 u14 u15 u16 u17 u18 u19 u20 u21 u22 u23 u24 u25 u26 u27 u28 u29 u30 u31 u32 u33 u34 u35 u36 u37 u38 u39 u40 u41 u42 u43 u44 u45 u46 u47 u48 u49 u50 u51 u52 u53 u54 u55 u56 u57 u58 u59 u60 u61 u62 u63 u64 u65 u66 u67 u68 u69 u70 u71 u72 u73 : Value, P ⟨#[u0, u1, u2, u3, u4, u5, u6, u7, u8, u9, u10, u11, u12, u13, u14, u15, u16, u17, u18, u19, u20, u21, u22, u23, u24, u25, u26, u27, u28, u29, u30, u31, u32, u33, u34, u35, u36, u37, u38, u39, u40, u41, u42, u43, u44, u45, u46, u47, u48, u49, u50, u51, u52, u53, u54, u55, u56, u57, u58, u59, u60, u61, u62, u63, u64, u65, u66, u67, u68, u69, u70, u71, u72, u73], []⟩) : ∀ a : Act, a.tmps.size = 74 → a.defers = [] → P a := by
  rintro ⟨⟨t⟩, d⟩ h1 h2
  simp only [List.size_toArray] at h1 h2
  subst h2
  have h := unroll t 74 h1
  have e : (List.range 74).map (fun i => t.getD i undef) = [t.getD 0 undef, t.getD 1 undef, t.getD 2 undef, t.getD 3 undef, t.getD 4 undef, t.getD 5 undef, t.getD 6 undef, t.getD 7 undef, t.getD 8 undef, t.getD 9 undef, t.getD 10 undef, t.getD 11 undef, t.getD 12 undef, t.getD 13 undef, t.getD 14 undef, t.getD 15 undef, t.getD 16 undef, t.getD 17 undef, t.getD 18 undef, t.getD 19 undef, t.getD 20 undef, t.getD 21 undef, t.getD 22 undef, t.getD 23 undef, t.getD 24 undef, t.getD 25 undef, t.getD 26 undef, t.getD 27 undef, t.getD 28 undef, t.getD 29 undef, t.getD 30 undef, t.getD 31 undef, t.getD 32 undef, t.getD 33 undef, t.getD 34 undef, t.getD 35 undef, t.getD 36 undef, t.getD 37 undef, t.getD 38 undef, t.getD 39 undef, t.getD 40 undef, t.getD 41 undef, t.getD 42 undef, t.getD 43 undef, t.getD 44 undef, t.getD 45 undef, t.getD 46 undef, t.getD 47 undef, t.getD 48 undef, t.getD 49 undef, t.getD 50 undef, t.getD 51 undef, t.getD 52 undef, t.getD 53 undef, t.getD 54 undef, t.getD 55 undef, t.getD 56 undef, t.getD 57 undef, t.getD 58 undef, t.getD 59 undef, t.getD 60 undef, t.getD 61 undef, t.getD 62 undef, t.getD 63 undef, t.getD 64 undef, t.getD 65 undef, t.getD 66 undef, t.getD 67 undef, t.getD 68 undef, t.getD 69 undef, t.getD 70 undef, t.getD 71 undef, t.getD 72 undef, t.getD 73 undef] := rfl
  exact Eq.mpr (congrArg (fun l : List Value => P ⟨⟨l⟩, []⟩) (h.trans e)) (hP (t.getD 0 undef) (t.getD 1 undef) (t.getD 2 undef) (t.getD 3 undef) (t.getD 4 undef) (t.getD 5 undef) (t.getD 6 undef) (t.getD 7 undef) (t.getD 8 undef) (t.getD 9 undef) (t.getD 10 undef) (t.getD 11 undef) (t.getD 12 undef) (t.getD 13 undef) (t.getD 14 undef) (t.getD 15 undef) (t.getD 16 undef) (t.getD 17 undef) (t.getD 18 undef) (t.getD 19 undef) (t.getD 20 undef) (t.getD 21 undef) (t.getD 22 undef) (t.getD 23 undef) (t.getD 24 undef) (t.getD 25 undef) (t.getD 26 undef) (t.getD 27 undef) (t.getD 28 undef) (t.getD 29 undef) (t.getD 30 undef) (t.getD 31 undef) (t.getD 32 undef) (t.getD 33 undef) (t.getD 34 undef) (t.getD 35 undef) (t.getD 36 undef) (t.getD 37 undef) (t.getD 38 undef) (t.getD 39 undef) (t.getD 40 undef) (t.getD 41 undef) (t.getD 42 undef) (t.getD 43 undef) (t.getD 44 undef) (t.getD 45 undef) (t.getD 46 undef) (t.getD 47 undef) (t.getD 48 undef) (t.getD 49 undef) (t.getD 50 undef) (t.getD 51 undef) (t.getD 52 undef) (t.getD 53 undef) (t.getD 54 undef) (t.getD 55 undef) (t.getD 56 undef) (t.getD 57 undef) (t.getD 58 undef) (t.getD 59 undef) (t.getD 60 undef) (t.getD 61 undef) (t.getD 62 undef) (t.getD 63 undef) (t.getD 64 undef) (t.getD 65 undef) (t.getD 66 undef) (t.getD 67 undef) (t.getD 68 undef) (t.getD 69 undef) (t.getD 70 undef) (t.getD 71 undef) (t.getD 72 undef) (t.getD 73 undef))
def uf (x : Nat) : List Value := [.int .u32 (x : Int)]
theorem uf_flat (V : List Nat) : V.flatMap uf = u32v V := by
  induction V with
  | nil => rfl
  | cons a V ih => rw [List.flatMap_cons, ih]; rfl
theorem uInfo : (Try.prog.info? 31).map (fun i => (i.zero, i.size, i.bytes)) = some (some (.int .u32 0), 1, 4) := by kernel_rfl
theorem elU : ElT Try.prog 41 31 uf 1 := by
  obtain ⟨i0, hi0, hz0, hz1, hz2⟩ := info_parts uInfo
  exact ⟨Try.underlying41, ⟨i0, _, hi0, hz0, hz1, by omega, rfl⟩, by decide, fun _ => rfl, fun x u hu => by simp [uf] at hu; subst hu; rfl⟩
theorem atL_app (s mx my : Int) (A B : List (Nat × Bx)) : atL s mx my (A ++ B) = atL s mx my A ++ atL s mx my B := by simp [atL]
theorem atL_le (s mx my : Int) (L : List (Nat × Bx)) : (atL s mx my L).length ≤ L.length := by
  unfold atL; rw [List.length_map]; exact List.length_filter_le _ _
/-- a list of numbers that a call of the document's answer gives -/
def WantL (w w' : World) (V : List Nat) (e : Ending) : Prop := ∃ oa oc, e = .returned (.slice oa V.length oc) ∧ Keeps (fun _ => False) w w' ∧ w'.ownsRow w.heap.size 31 1 (.slice oa V.length oc) V.length (u32v V)
set_option maxHeartbeats 4000000 in
theorem at_off (w : World) (R : Nat) (mx my : Int) (hm : ¬ On mx my) :
    Calls Try.prog 8 #[.pointer (some ⟨R, 0, none⟩), .agg #[.int .i32 mx, .int .i32 my]] w fun e w' => WantL w w' [] e := by
  have z := rin_t mx my
  simp only [hm, decide_false] at z
  clear hm
  go_enter Try.func8, Try.ntmps8
  go_wp2_with (go_at_call 19; (with_reducible refine (z _).mono ?_); rintro e w1 ⟨rfl, hw⟩; have HK1 := Lib.hid (show Keeps (fun _ => False) w w1 from by rw [← hw]; (repeat (first | exact Keeps.refl _ _ | refine Keeps.alloc ?_ _ | refine Keeps.drew ?_))); clear hw)
  go_ret
  exact ⟨none, 0, rfl, HK1.out, World.ownsRow_nil _ _ _ _⟩
set_option maxHeartbeats 8000000 in
set_option maxRecDepth 100000 in
theorem at_on (w : World) (R : Nat) (s : Int) (a : Option Addr) (cp : Nat) (L : List (Nat × Bx)) (h : RG w R s a cp L) (hs : Size s) (hl : L.length ≤ 100000) (hR : ∀ p ∈ L, Right p.2) (mx my : Int) (hm : On mx my) :
    Calls Try.prog 8 #[.pointer (some ⟨R, 0, none⟩), .agg #[.int .i32 mx, .int .i32 my]] w fun e w' => WantL w w' (atL s mx my L) e := by
  have z := rin_t mx my
  simp only [hm, decide_true] at z
  have o1 := fun w => floor_r mx s w hm.1 hm.2.1 hs
  have o2 := fun w => floor_r my s w hm.2.2.1 hm.2.2.2 hs
  have q1 := quot_in hs.1 hm.1 hm.2.1
  have q2 := quot_in hs.1 hm.2.2.1 hm.2.2.2
  obtain ⟨cx, hcx⟩ : ∃ q, q = mx / s := ⟨_, rfl⟩
  obtain ⟨cy, hcy⟩ : ∃ q, q = my / s := ⟨_, rfl⟩
  have hcof : cof s mx my = (cx, cy) := by rw [hcx, hcy]; rfl
  rw [← hcx] at o1 q1
  rw [← hcy] at o2 q2
  have u1 : IntKind.i32.wrap cx = cx := IntWalk.i32_in _ (by omega)
  have u2 : IntKind.i32.wrap cy = cy := IntWalk.i32_in _ (by omega)
  obtain ⟨n, hn⟩ : ∃ n : Nat, n = L.length := ⟨_, rfl⟩
  rw [← hn] at hl
  have hnI : (n : Int) ≤ 100000 := by omega
  have HN := Lib.hid hn
  have H := Lib.hid h
  have HO := Lib.hid (And.intro o1 o2)
  have HF := Lib.hid (And.intro hs (And.intro hR (And.intro hcof (And.intro q1 q2))))
  have bR := h.blk
  rw [← hn] at bR
  have bP := Blk.new w 33 [.int .i32 mx, .int .i32 my]
  have HSN := Lib.hid (show ∀ W', Keeps (fun _ => False) (w.alloc (.cells #[.int .i32 mx, .int .i32 my] 33)) W' → (∀ i : Nat, W'.cell? ⟨w.heap.size, i, none⟩ = ([.int .i32 mx, .int .i32 my] : List Value)[i]?) ∧ (∀ i : Nat, W'.cell? ⟨R, i, none⟩ = ([.int .i64 s, .slice a n cp] : List Value)[i]?) from fun W' hk => ⟨(bP.keeps hk (fun h => h)).cell, (bR.keeps (((Keeps.refl (fun _ => False) w).alloc _).trans hk) (fun h => h)).cell⟩)
  clear hcx hcy hn h hl hR hm hs o1 o2 q1 q2 hcof bR bP
  go_enter Try.func8, Try.ntmps8
  go_wp2_with (go_at_call 19; (with_reducible refine (z _).mono ?_); rintro e w1 ⟨rfl, hw⟩; have HK1 := Lib.hid (show Keeps (fun _ => False) (w.alloc (.cells #[.int .i32 mx, .int .i32 my] 33)) w1 from by rw [← hw]; (repeat (first | exact Keeps.refl _ _ | refine Keeps.alloc ?_ _ | refine Keeps.drew ?_))); clear hw)
  rename_i Kx hKx
  refine wp_mono (Q := Exit.then (fun a' W' => ∃ B6, Fr a' 74 [(0, .pointer (some ⟨R, 0, none⟩)), (3, .pointer (some ⟨w.heap.size, 0, none⟩)), (5, .slice none 0 0), (6, .pointer (some ⟨B6, 0, none⟩))] ∧ Blk W' B6 65 [.int .i32 cx, .int .i32 cy] ∧ Keeps (fun _ => False) w1 W') (fun _ _ _ => False)) ?region ?rest
  case region =>
    clear hKx
    go_region_held3 (fun W => (∀ i : Nat, W.cell? ⟨w.heap.size, i, none⟩ = ([.int .i32 mx, .int .i32 my] : List Value)[i]?) ∧ (∀ i : Nat, W.cell? ⟨R, i, none⟩ = ([.int .i64 s, .slice a n cp] : List Value)[i]?)) (first | with_reducible assumption | exact HSN.out _ (by first | exact HK1.out | (refine HK1.out.trans ?_; (repeat (first | exact Keeps.refl _ _ | refine Keeps.alloc ?_ _ | refine Keeps.drew ?_))))) (first | (go_at_call 20; (first | (with_reducible refine (HO.out.1 _).mono ?_) | (with_reducible refine (HO.out.2 _).mono ?_)); rintro e w2 ⟨rfl, rfl⟩))
    all_goals exact ⟨w1.heap.size, ⟨rfl, rfl, by simp⟩, Blk.new w1 65 [.int .i32 cx, .int .i32 cy], by (repeat (first | exact Keeps.refl _ _ | refine Keeps.alloc ?_ _ | refine Keeps.drew ?_))⟩
  case rest =>
    intro e a1 W2 hpost
    cases e with
    | normal =>
      obtain ⟨B6, hF, hB6, hk2⟩ := hpost
      show Kx a1 W2
      revert hF
      refine fun hF => frames74 (P := fun a1 => Fr a1 74 [(0, .pointer (some ⟨R, 0, none⟩)), (3, .pointer (some ⟨w.heap.size, 0, none⟩)), (5, .slice none 0 0), (6, .pointer (some ⟨B6, 0, none⟩))] → Kx a1 W2) ?_ a1 hF.1 hF.2.1 hF
      intro u0 u1 u2 u3 u4 u5 u6 u7 u8 u9 u10 u11 u12 u13 u14 u15 u16 u17 u18 u19 u20 u21 u22 u23 u24 u25 u26 u27 u28 u29 u30 u31 u32 u33 u34 u35 u36 u37 u38 u39 u40 u41 u42 u43 u44 u45 u46 u47 u48 u49 u50 u51 u52 u53 u54 u55 u56 u57 u58 u59 u60 u61 u62 u63 u64 u65 u66 u67 u68 u69 u70 u71 u72 u73 hF
      obtain rfl : u0 = .pointer (some ⟨R, 0, none⟩) := hF.at_ 0 _ (by simp)
      obtain rfl : u3 = .pointer (some ⟨w.heap.size, 0, none⟩) := hF.at_ 3 _ (by simp)
      obtain rfl : u5 = .slice none 0 0 := hF.at_ 5 _ (by simp)
      obtain rfl : u6 = .pointer (some ⟨B6, 0, none⟩) := hF.at_ 6 _ (by simp)
      clear hF
      refine hKx _ _ ?_
      clear hKx
      have HB6 := Lib.hid hB6
      have HKW := Lib.hid (((Keeps.refl (fun _ => False) w).alloc (.cells #[.int .i32 mx, .int .i32 my] 33)).trans (HK1.out.trans hk2))
      clear hB6 hk2
      go_wp2
      go_loopw [5, 7] (fun v q wr => ∃ (i : Nat) (la : Option Addr) (lc : Nat), q = .int .i64 (i : Int) ∧ i ≤ n ∧ v = .slice la (atL s mx my (L.take i)).length lc ∧ wr.ownsRow W2.heap.size 31 1 (.slice la (atL s mx my (L.take i)).length lc) (atL s mx my (L.take i)).length ((atL s mx my (L.take i)).flatMap uf) ∧ Keeps (fun _ => False) W2 wr) (fun _ q _ => n - (intOf q).toNat)
      case atStart => exact ⟨0, none, 0, rfl, Nat.zero_le _, rfl, World.ownsRow_nil _ _ _ _, Keeps.refl _ _⟩
      case round =>
        obtain ⟨i, la, lc, rfl, hi, rfl, hO, hK⟩ := hrel
        have hli : (atL s mx my (L.take i)).length ≤ 100000 := by
          have := atL_le s mx my (L.take i)
          have : (L.take i).length ≤ i := List.length_take_le _ _
          omega
        obtain ⟨l, hle⟩ : ∃ l, l = atL s mx my (L.take i) := ⟨_, rfl⟩
        rw [← hle] at hO hli ⊢
        obtain ⟨m, hm⟩ : ∃ m : Nat, m = l.length := ⟨_, rfl⟩
        rw [← hm] at hO hli ⊢
        have bR := H.out.blk.keeps (HKW.out.trans hK) (fun h => h)
        rw [← HN.out] at bR
        have cR := bR.cell
        have HOw := Lib.hid hO
        have HKR := Lib.hid hK
        have HL := Lib.hid (And.intro hle (And.intro hm hli))
        clear hO hle hm hli
        by_cases hlt : i < n
        · obtain ⟨p, hp⟩ : ∃ p, L[i]? = some p := ⟨_, List.getElem?_eq_getElem (by have := HN.out; omega)⟩
          have hRG := H.out.kd (HKW.out.trans hK)
          obtain ⟨g, rfl, -⟩ := hRG.row hp
          obtain ⟨c0, c1, c2, c3, c4⟩ := hRG.five hp
          have hltI : (i : Int) < (n : Int) := by omega
          have hRp := HF.out.2.1 p (List.mem_of_getElem? hp)
          obtain ⟨cn, hcn⟩ : ∃ cn, cn = cnt s p.2 := ⟨_, rfl⟩
          obtain ⟨cv, hcv⟩ : ∃ cv, cv = decide (covers s p.2 (cx, cy)) := ⟨_, rfl⟩
          have zc := fun W (hk : Keeps (fun _ => False) wr W) => cells_r W R s _ (bR.keeps hk (fun h => h)) HF.out.1 p.2 hRp
          have zh := fun W (hk : Keeps (fun _ => False) wr W) => has_r W R s _ (bR.keeps hk (fun h => h)) HF.out.1 p.2 hRp (cx, cy) (by have := HF.out.2.2.2.1; simp only; omega) (by have := HF.out.2.2.2.1; simp only; omega) (by have := HF.out.2.2.2.2; simp only; omega) (by have := HF.out.2.2.2.2; simp only; omega)
          rw [← hcn] at zc
          rw [← hcv] at zh
          have HZ := Lib.hid (And.intro zc zh)
          have hb6 := HB6.out.keeps hK (fun h => h)
          have HSR := Lib.hid (show ∀ W', Keeps (fun _ => False) wr W' → (∀ i : Nat, W'.cell? ⟨B6, i, none⟩ = ([.int .i32 cx, .int .i32 cy] : List Value)[i]?) ∧ (∀ i : Nat, W'.cell? ⟨R, i, none⟩ = ([.int .i64 s, .slice (some ⟨g, 0, none⟩) n cp] : List Value)[i]?) ∧ (W'.cell? ⟨g, i * 5, none⟩ = some (.int .u32 (p.1 : Int)) ∧ W'.cell? ⟨g, i * 5 + 1, none⟩ = some (.int .i32 p.2.x0) ∧ W'.cell? ⟨g, i * 5 + 2, none⟩ = some (.int .i32 p.2.y0) ∧ W'.cell? ⟨g, i * 5 + 3, none⟩ = some (.int .i32 p.2.x1) ∧ W'.cell? ⟨g, i * 5 + 4, none⟩ = some (.int .i32 p.2.y1)) from fun W' hk => ⟨(hb6.keeps hk (fun h => h)).cell, (bR.keeps hk (fun h => h)).cell, ((hRG.kd hk).five hp)⟩)
          obtain ⟨bb, hbb⟩ : ∃ bb, bb = atB s mx my p := ⟨_, rfl⟩
          have hbb2 : bb = (decide (cn > 1024) || cv) := by rw [hbb, hcn, hcv]; unfold atB; rw [HF.out.2.2.1]
          have HP := Lib.hid (And.intro hp hbb)
          clear hp hK hRp zc zh hcn hcv hb6 bR hRG hbb c1 c2 c3 c4 c0
          have HA := Lib.hid (show ∀ b2, b2 = bb → atL s mx my (L.take (i + 1)) = if b2 = true then l ++ [p.1] else l from by
            rintro b2 rfl
            rw [take_at HP.out.1, atL_app, ← HL.out.1]
            unfold atL
            by_cases hb : b2 = true
            · rw [if_pos hb]; simp [← HP.out.2, hb]
            · rw [if_neg hb]; simp [← HP.out.2, hb])
          by_cases hc : cn > 1024
          · have HB1 := Lib.hid (show true = bb by rw [hbb2]; simp [hc])
            have d1 : decide (cn > 1024) = true := decide_eq_true hc
            have d2 : decide (1024 < cn) = true := decide_eq_true hc
            clear hc
            go_wp2
            rename_i Kx hKx
            refine wp_mono (Q := Exit.then Kx (fun _ _ _ => False)) ?_ (fun e a w h => by cases e <;> first | exact h | exact h.elim)
            refine wp_region_held_drew (S := fun W => (∀ i : Nat, W.cell? ⟨B6, i, none⟩ = ([.int .i32 cx, .int .i32 cy] : List Value)[i]?) ∧ (∀ i : Nat, W.cell? ⟨R, i, none⟩ = ([.int .i64 s, .slice (some ⟨g, 0, none⟩) n cp] : List Value)[i]?) ∧ (W.cell? ⟨g, i * 5, none⟩ = some (.int .u32 (p.1 : Int)) ∧ W.cell? ⟨g, i * 5 + 1, none⟩ = some (.int .i32 p.2.x0) ∧ W.cell? ⟨g, i * 5 + 2, none⟩ = some (.int .i32 p.2.y0) ∧ W.cell? ⟨g, i * 5 + 3, none⟩ = some (.int .i32 p.2.x1) ∧ W.cell? ⟨g, i * 5 + 4, none⟩ = some (.int .i32 p.2.y1))) (by kernel_rfl) (HSR.out _ (by (repeat (first | exact Keeps.refl _ _ | refine Keeps.alloc ?_ _ | refine Keeps.drew ?_)))) (fun hS0 => ?_)
            (refine wpAnyH_take (i := 0) (v := ?_) rfl (by kernel_rfl) (by kernel_rfl) (by kernel_rfl) (fun _ _ _ h => False.elim h) (Or.inl ⟨by kernel_rfl, ?_⟩) (by with_reducible exact hS0) ?_; rotate_left; (focus (rintro w hSw; (try dsimp only at hSw); go_simp; (try with_reducible rfl))); simp only [Act.put, List.getElem_toArray, List.getElem_cons_succ, List.getElem_cons_zero, List.setIfInBounds_toArray, List.set_cons_zero, List.set_cons_succ])
            (refine wpAnyH_take (i := 1) (v := ?_) rfl (by kernel_rfl) (by kernel_rfl) (by kernel_rfl) (fun _ _ _ h => False.elim h) (Or.inl ⟨by kernel_rfl, ?_⟩) (by with_reducible exact hS0) ?_; rotate_left; (focus (rintro w hSw; (try dsimp only at hSw); go_simp; (try with_reducible rfl))); simp only [Act.put, List.getElem_toArray, List.getElem_cons_succ, List.getElem_cons_zero, List.setIfInBounds_toArray, List.set_cons_zero, List.set_cons_succ])
            (refine wpAnyH_take (i := 2) (v := ?_) rfl (by kernel_rfl) (by kernel_rfl) (by kernel_rfl) (fun _ _ _ h => False.elim h) (Or.inl ⟨by kernel_rfl, ?_⟩) (by with_reducible exact hS0) ?_; rotate_left; (focus (rintro w hSw; (try dsimp only at hSw); go_simp; (try with_reducible rfl))); simp only [Act.put, List.getElem_toArray, List.getElem_cons_succ, List.getElem_cons_zero, List.setIfInBounds_toArray, List.set_cons_zero, List.set_cons_succ])
            (refine wpAnyH_take (i := 3) (v := ?_) rfl (by kernel_rfl) (by kernel_rfl) (by kernel_rfl) (fun _ _ _ h => False.elim h) (Or.inl ⟨by kernel_rfl, ?_⟩) (by with_reducible exact hS0) ?_; rotate_left; (focus (rintro w hSw; (try dsimp only at hSw); go_simp; (try with_reducible rfl))); simp only [Act.put, List.getElem_toArray, List.getElem_cons_succ, List.getElem_cons_zero, List.setIfInBounds_toArray, List.set_cons_zero, List.set_cons_succ])
            (refine wpAnyH_take (i := 4) (v := ?_) rfl (by kernel_rfl) (by kernel_rfl) (by kernel_rfl) (fun _ _ _ h => False.elim h) (Or.inl ⟨by kernel_rfl, ?_⟩) (by with_reducible exact hS0) ?_; rotate_left; (focus (rintro w hSw; (try dsimp only at hSw); go_simp; (try with_reducible rfl))); simp only [Act.put, List.getElem_toArray, List.getElem_cons_succ, List.getElem_cons_zero, List.setIfInBounds_toArray, List.set_cons_zero, List.set_cons_succ])
            (refine wpAnyH_take (i := 5) (v := ?_) rfl (by kernel_rfl) (by kernel_rfl) (by kernel_rfl) (fun _ _ _ h => False.elim h) (Or.inl ⟨by kernel_rfl, ?_⟩) (by with_reducible exact hS0) ?_; rotate_left; (focus (rintro w hSw; (try dsimp only at hSw); go_simp; (try with_reducible rfl))); simp only [Act.put, List.getElem_toArray, List.getElem_cons_succ, List.getElem_cons_zero, List.setIfInBounds_toArray, List.set_cons_zero, List.set_cons_succ])
            (refine wpAnyH_take (i := 6) (v := ?_) rfl (by kernel_rfl) (by kernel_rfl) (by kernel_rfl) (fun _ _ _ h => False.elim h) (Or.inl ⟨by kernel_rfl, ?_⟩) (by with_reducible exact hS0) ?_; rotate_left; (focus (rintro w hSw; (try dsimp only at hSw); go_simp; (try with_reducible rfl))); simp only [Act.put, List.getElem_toArray, List.getElem_cons_succ, List.getElem_cons_zero, List.setIfInBounds_toArray, List.set_cons_zero, List.set_cons_succ])
            (refine wpAnyH_take (i := 7) (v := ?_) rfl (by kernel_rfl) (by kernel_rfl) (by kernel_rfl) (fun _ _ _ h => False.elim h) (Or.inl ⟨by kernel_rfl, ?_⟩) (by with_reducible exact hS0) ?_; rotate_left; (focus (rintro w hSw; (try dsimp only at hSw); go_simp; (try with_reducible rfl))); simp only [Act.put, List.getElem_toArray, List.getElem_cons_succ, List.getElem_cons_zero, List.setIfInBounds_toArray, List.set_cons_zero, List.set_cons_succ])
            (refine wpAnyH_take (i := 8) (v := ?_) rfl (by kernel_rfl) (by kernel_rfl) (by kernel_rfl) (fun _ _ _ h => False.elim h) (Or.inl ⟨by kernel_rfl, ?_⟩) (by with_reducible exact hS0) ?_; rotate_left; (focus (rintro w hSw; (try dsimp only at hSw); go_simp; (try with_reducible rfl))); simp only [Act.put, List.getElem_toArray, List.getElem_cons_succ, List.getElem_cons_zero, List.setIfInBounds_toArray, List.set_cons_zero, List.set_cons_succ])
            refine anyH_one 9 (by kernel_rfl) rfl (by rfl) (fun K hK => ?_)
            go_simp
            go_at_call 21
            (with_reducible refine (HZ.out.1 _ (by (repeat (first | exact Keeps.refl _ _ | refine Keeps.alloc ?_ _ | refine Keeps.drew ?_)))).mono ?_)
            rintro e w2 ⟨rfl, hk2⟩
            have HK2 := Lib.hid (Keeps.trans (show Keeps (fun _ => False) wr _ from by (repeat (first | exact Keeps.refl _ _ | refine Keeps.alloc ?_ _ | refine Keeps.drew ?_))) hk2)
            clear hk2
            first | refine hK _ _ (HSR.out _ HK2.out) ?_ | (go_wp2_with fail; refine hK _ _ (HSR.out _ HK2.out) ?_)
            have hS1 := HSR.out _ HK2.out
            clear hK
            try simp only [Act.put, List.getElem_toArray, List.getElem_cons_succ, List.getElem_cons_zero, List.setIfInBounds_toArray, List.set_cons_zero, List.set_cons_succ]
            (refine wpAnyH_take (i := 10) (v := ?_) rfl (by kernel_rfl) (by kernel_rfl) (by kernel_rfl) (fun _ _ _ h => False.elim h) (Or.inl ⟨by kernel_rfl, ?_⟩) (by with_reducible exact hS1) ?_; rotate_left; (focus (rintro w hSw; (try dsimp only at hSw); go_simp; (try with_reducible rfl))); simp only [Act.put, List.getElem_toArray, List.getElem_cons_succ, List.getElem_cons_zero, List.setIfInBounds_toArray, List.set_cons_zero, List.set_cons_succ])
            (refine wpAnyH_take (i := 11) (v := ?_) rfl (by kernel_rfl) (by kernel_rfl) (by kernel_rfl) (fun _ _ _ h => False.elim h) (Or.inl ⟨by kernel_rfl, ?_⟩) (by with_reducible exact hS1) ?_; rotate_left; (focus (rintro w hSw; (try dsimp only at hSw); go_simp; (try with_reducible rfl))); simp only [Act.put, List.getElem_toArray, List.getElem_cons_succ, List.getElem_cons_zero, List.setIfInBounds_toArray, List.set_cons_zero, List.set_cons_succ])
            (refine wpAnyH_take (i := 12) (v := undef) rfl (by kernel_rfl) (by kernel_rfl) (by kernel_rfl) (fun _ _ _ h => False.elim h) (Or.inr ⟨by kernel_rfl, rfl⟩) (by with_reducible exact hS1) ?_; simp only [Act.put, List.getElem_toArray, List.getElem_cons_succ, List.getElem_cons_zero, List.setIfInBounds_toArray, List.set_cons_zero, List.set_cons_succ])
            (refine wpAnyH_take (i := 13) (v := undef) rfl (by kernel_rfl) (by kernel_rfl) (by kernel_rfl) (fun _ _ _ h => False.elim h) (Or.inr ⟨by kernel_rfl, rfl⟩) (by with_reducible exact hS1) ?_; simp only [Act.put, List.getElem_toArray, List.getElem_cons_succ, List.getElem_cons_zero, List.setIfInBounds_toArray, List.set_cons_zero, List.set_cons_succ])
            (refine wpAnyH_take (i := 14) (v := undef) rfl (by kernel_rfl) (by kernel_rfl) (by kernel_rfl) (fun _ _ _ h => False.elim h) (Or.inr ⟨by kernel_rfl, rfl⟩) (by with_reducible exact hS1) ?_; simp only [Act.put, List.getElem_toArray, List.getElem_cons_succ, List.getElem_cons_zero, List.setIfInBounds_toArray, List.set_cons_zero, List.set_cons_succ])
            (refine wpAnyH_take (i := 15) (v := undef) rfl (by kernel_rfl) (by kernel_rfl) (by kernel_rfl) (fun _ _ _ h => False.elim h) (Or.inr ⟨by kernel_rfl, rfl⟩) (by with_reducible exact hS1) ?_; simp only [Act.put, List.getElem_toArray, List.getElem_cons_succ, List.getElem_cons_zero, List.setIfInBounds_toArray, List.set_cons_zero, List.set_cons_succ])
            (refine wpAnyH_take (i := 16) (v := undef) rfl (by kernel_rfl) (by kernel_rfl) (by kernel_rfl) (fun _ _ _ h => False.elim h) (Or.inr ⟨by kernel_rfl, rfl⟩) (by with_reducible exact hS1) ?_; simp only [Act.put, List.getElem_toArray, List.getElem_cons_succ, List.getElem_cons_zero, List.setIfInBounds_toArray, List.set_cons_zero, List.set_cons_succ])
            (refine wpAnyH_take (i := 17) (v := undef) rfl (by kernel_rfl) (by kernel_rfl) (by kernel_rfl) (fun _ _ _ h => False.elim h) (Or.inr ⟨by kernel_rfl, rfl⟩) (by with_reducible exact hS1) ?_; simp only [Act.put, List.getElem_toArray, List.getElem_cons_succ, List.getElem_cons_zero, List.setIfInBounds_toArray, List.set_cons_zero, List.set_cons_succ])
            (refine wpAnyH_take (i := 18) (v := undef) rfl (by kernel_rfl) (by kernel_rfl) (by kernel_rfl) (fun _ _ _ h => False.elim h) (Or.inr ⟨by kernel_rfl, rfl⟩) (by with_reducible exact hS1) ?_; simp only [Act.put, List.getElem_toArray, List.getElem_cons_succ, List.getElem_cons_zero, List.setIfInBounds_toArray, List.set_cons_zero, List.set_cons_succ])
            (refine wpAnyH_take (i := 19) (v := undef) rfl (by kernel_rfl) (by kernel_rfl) (by kernel_rfl) (fun _ _ _ h => False.elim h) (Or.inr ⟨by kernel_rfl, rfl⟩) (by with_reducible exact hS1) ?_; simp only [Act.put, List.getElem_toArray, List.getElem_cons_succ, List.getElem_cons_zero, List.setIfInBounds_toArray, List.set_cons_zero, List.set_cons_succ])
            (refine wpAnyH_take (i := 20) (v := undef) rfl (by kernel_rfl) (by kernel_rfl) (by kernel_rfl) (fun _ _ _ h => False.elim h) (Or.inr ⟨by kernel_rfl, rfl⟩) (by with_reducible exact hS1) ?_; simp only [Act.put, List.getElem_toArray, List.getElem_cons_succ, List.getElem_cons_zero, List.setIfInBounds_toArray, List.set_cons_zero, List.set_cons_succ])
            (refine wpAnyH_take (i := 21) (v := undef) rfl (by kernel_rfl) (by kernel_rfl) (by kernel_rfl) (fun _ _ _ h => False.elim h) (Or.inr ⟨by kernel_rfl, rfl⟩) (by with_reducible exact hS1) ?_; simp only [Act.put, List.getElem_toArray, List.getElem_cons_succ, List.getElem_cons_zero, List.setIfInBounds_toArray, List.set_cons_zero, List.set_cons_succ])
            (refine wpAnyH_take (i := 22) (v := undef) rfl (by kernel_rfl) (by kernel_rfl) (by kernel_rfl) (fun _ _ _ h => False.elim h) (Or.inr ⟨by kernel_rfl, rfl⟩) (by with_reducible exact hS1) ?_; simp only [Act.put, List.getElem_toArray, List.getElem_cons_succ, List.getElem_cons_zero, List.setIfInBounds_toArray, List.set_cons_zero, List.set_cons_succ])
            (refine wpAnyH_take (i := 23) (v := ?_) rfl (by kernel_rfl) (by kernel_rfl) (by kernel_rfl) (fun _ _ _ h => False.elim h) (Or.inl ⟨by kernel_rfl, ?_⟩) (by with_reducible exact hS1) ?_; rotate_left; (focus (rintro w hSw; (try dsimp only at hSw); go_simp; (try with_reducible rfl))); simp only [Act.put, List.getElem_toArray, List.getElem_cons_succ, List.getElem_cons_zero, List.setIfInBounds_toArray, List.set_cons_zero, List.set_cons_succ])
            refine wpAnyH_done (by kernel_rfl) ?_ _
            (refine hKx _ _ ?_; clear hKx hbb2; have bR3 := H.out.blk.keeps (HKW.out.trans (HKR.out.trans HK2.out)) (fun h => h); rw [← HN.out] at bR3; clear cR; have cR := bR3.cell; obtain ⟨c0, c1, c2, c3, c4⟩ := (H.out.kd (HKW.out.trans (HKR.out.trans HK2.out))).five HP.out.1; have hO3 := owns_keeps HOw.out HK2.out (fun _ _ h => h); have HO3 := Lib.hid hO3; clear hO3 bR3)
            go_wp2_with (at_builtin; refine app_f elU rfl (.tmp 62) (.tmp 71) rfl W2.heap.size l _ la lc rfl (HO3.out.alloc _) p.1 w2.heap.size rfl (by exact Mem.news_new w2 _ [_]) (Nat.le_trans HL.out.2.2 (by decide)) (((HKR.out.trans HK2.out).alloc _).size) ?_; intro g' cap' w5 hown hgrow; have HG := Lib.hid (And.intro hown hgrow); clear hown hgrow)
            go_roundw
            case rel =>
              have e := HA.out true HB1.out
              rw [if_pos rfl] at e
              have e2 := HL.out.2.1
              refine ⟨i + 1, some ⟨g', 0, none⟩, cap', by rw [Int.natCast_add]; rfl, by omega, by rw [e, e2]; simp, by rw [e]; exact own_n HG.out.1 (by rw [e2]; simp), ((HKR.out.trans HK2.out).alloc _).grown HG.out.2 (fun k hk e => absurd (HO3.out.lt k e).1 (by omega))⟩
            case measure => simp only [intOf]; omega
          · have d1 : decide (cn > 1024) = false := decide_eq_false hc
            have d2 : decide (1024 < cn) = false := decide_eq_false hc
            cases cv with
            | true =>
              have HB1 := Lib.hid (show true = bb by rw [hbb2]; simp)
              clear hc
              go_wp2
              rename_i Kx hKx
              go_region_held3 (fun W => (∀ i : Nat, W.cell? ⟨B6, i, none⟩ = ([.int .i32 cx, .int .i32 cy] : List Value)[i]?) ∧ (∀ i : Nat, W.cell? ⟨R, i, none⟩ = ([.int .i64 s, .slice (some ⟨g, 0, none⟩) n cp] : List Value)[i]?) ∧ (W.cell? ⟨g, i * 5, none⟩ = some (.int .u32 (p.1 : Int)) ∧ W.cell? ⟨g, i * 5 + 1, none⟩ = some (.int .i32 p.2.x0) ∧ W.cell? ⟨g, i * 5 + 2, none⟩ = some (.int .i32 p.2.y0) ∧ W.cell? ⟨g, i * 5 + 3, none⟩ = some (.int .i32 p.2.x1) ∧ W.cell? ⟨g, i * 5 + 4, none⟩ = some (.int .i32 p.2.y1))) (first | with_reducible assumption | exact HSR.out _ (by first | exact HK3.out | (refine HK3.out.trans ?_; (repeat (first | exact Keeps.refl _ _ | refine Keeps.alloc ?_ _ | refine Keeps.drew ?_)); done) | exact HK2.out | (refine HK2.out.trans ?_; (repeat (first | exact Keeps.refl _ _ | refine Keeps.alloc ?_ _ | refine Keeps.drew ?_))) | (repeat (first | exact Keeps.refl _ _ | refine Keeps.alloc ?_ _ | refine Keeps.drew ?_)))) (first | (go_at_call 21; (with_reducible refine (HZ.out.1 _ (by (repeat (first | exact Keeps.refl _ _ | refine Keeps.alloc ?_ _ | refine Keeps.drew ?_)))).mono ?_); rintro e w2 ⟨rfl, hk2⟩; have HK2 := Lib.hid (Keeps.trans (show Keeps (fun _ => False) wr _ from by (repeat (first | exact Keeps.refl _ _ | refine Keeps.alloc ?_ _ | refine Keeps.drew ?_))) hk2); clear hk2) | (go_at_call 22; (with_reducible refine (HZ.out.2 _ (by first | exact HK2.out | (refine HK2.out.trans ?_; (repeat (first | exact Keeps.refl _ _ | refine Keeps.alloc ?_ _ | refine Keeps.drew ?_)); done))).mono ?_); rintro e w3 ⟨rfl, hk3⟩; have HK3 := Lib.hid (Keeps.trans (show Keeps (fun _ => False) wr _ from by first | exact HK2.out | (refine HK2.out.trans ?_; (repeat (first | exact Keeps.refl _ _ | refine Keeps.alloc ?_ _ | refine Keeps.drew ?_)); done)) hk3); clear hk3))
              (refine hKx _ _ ?_; clear hKx hbb2; have bR3 := H.out.blk.keeps (HKW.out.trans (HKR.out.trans HK3.out)) (fun h => h); rw [← HN.out] at bR3; clear cR; have cR := bR3.cell; obtain ⟨c0, c1, c2, c3, c4⟩ := (H.out.kd (HKW.out.trans (HKR.out.trans HK3.out))).five HP.out.1; have hO3 := owns_keeps HOw.out HK3.out (fun _ _ h => h); have HO3 := Lib.hid hO3; clear hO3 bR3)
              go_wp2_with (at_builtin; refine app_f elU rfl (.tmp 62) (.tmp 71) rfl W2.heap.size l _ la lc rfl (HO3.out.alloc _) p.1 w3.heap.size rfl (by exact Mem.news_new w3 _ [_]) (Nat.le_trans HL.out.2.2 (by decide)) (((HKR.out.trans HK3.out).alloc _).size) ?_; intro g' cap' w5 hown hgrow; have HG := Lib.hid (And.intro hown hgrow); clear hown hgrow)
              go_roundw
              case rel =>
                have e := HA.out true HB1.out
                rw [if_pos rfl] at e
                have e2 := HL.out.2.1
                refine ⟨i + 1, some ⟨g', 0, none⟩, cap', by rw [Int.natCast_add]; rfl, by omega, by rw [e, e2]; simp, by rw [e]; exact own_n HG.out.1 (by rw [e2]; simp), ((HKR.out.trans HK3.out).alloc _).grown HG.out.2 (fun k hk e => absurd (HO3.out.lt k e).1 (by omega))⟩
              case measure => simp only [intOf]; omega
            | false =>
              have HB1 := Lib.hid (show false = bb by rw [hbb2]; simp [hc])
              clear hc
              go_wp2
              rename_i Kx hKx
              go_region_held3 (fun W => (∀ i : Nat, W.cell? ⟨B6, i, none⟩ = ([.int .i32 cx, .int .i32 cy] : List Value)[i]?) ∧ (∀ i : Nat, W.cell? ⟨R, i, none⟩ = ([.int .i64 s, .slice (some ⟨g, 0, none⟩) n cp] : List Value)[i]?) ∧ (W.cell? ⟨g, i * 5, none⟩ = some (.int .u32 (p.1 : Int)) ∧ W.cell? ⟨g, i * 5 + 1, none⟩ = some (.int .i32 p.2.x0) ∧ W.cell? ⟨g, i * 5 + 2, none⟩ = some (.int .i32 p.2.y0) ∧ W.cell? ⟨g, i * 5 + 3, none⟩ = some (.int .i32 p.2.x1) ∧ W.cell? ⟨g, i * 5 + 4, none⟩ = some (.int .i32 p.2.y1))) (first | with_reducible assumption | exact HSR.out _ (by first | exact HK3.out | (refine HK3.out.trans ?_; (repeat (first | exact Keeps.refl _ _ | refine Keeps.alloc ?_ _ | refine Keeps.drew ?_)); done) | exact HK2.out | (refine HK2.out.trans ?_; (repeat (first | exact Keeps.refl _ _ | refine Keeps.alloc ?_ _ | refine Keeps.drew ?_))) | (repeat (first | exact Keeps.refl _ _ | refine Keeps.alloc ?_ _ | refine Keeps.drew ?_)))) (first | (go_at_call 21; (with_reducible refine (HZ.out.1 _ (by (repeat (first | exact Keeps.refl _ _ | refine Keeps.alloc ?_ _ | refine Keeps.drew ?_)))).mono ?_); rintro e w2 ⟨rfl, hk2⟩; have HK2 := Lib.hid (Keeps.trans (show Keeps (fun _ => False) wr _ from by (repeat (first | exact Keeps.refl _ _ | refine Keeps.alloc ?_ _ | refine Keeps.drew ?_))) hk2); clear hk2) | (go_at_call 22; (with_reducible refine (HZ.out.2 _ (by first | exact HK2.out | (refine HK2.out.trans ?_; (repeat (first | exact Keeps.refl _ _ | refine Keeps.alloc ?_ _ | refine Keeps.drew ?_)); done))).mono ?_); rintro e w3 ⟨rfl, hk3⟩; have HK3 := Lib.hid (Keeps.trans (show Keeps (fun _ => False) wr _ from by first | exact HK2.out | (refine HK2.out.trans ?_; (repeat (first | exact Keeps.refl _ _ | refine Keeps.alloc ?_ _ | refine Keeps.drew ?_)); done)) hk3); clear hk3))
              (refine hKx _ _ ?_; clear hKx hbb2; have bR3 := H.out.blk.keeps (HKW.out.trans (HKR.out.trans HK3.out)) (fun h => h); rw [← HN.out] at bR3; clear cR; have cR := bR3.cell; obtain ⟨c0, c1, c2, c3, c4⟩ := (H.out.kd (HKW.out.trans (HKR.out.trans HK3.out))).five HP.out.1; have hO3 := owns_keeps HOw.out HK3.out (fun _ _ h => h); have HO3 := Lib.hid hO3; clear hO3 bR3)
              go_wp2
              go_roundw
              case rel =>
                have e := HA.out false HB1.out
                rw [if_neg (by simp)] at e
                have e2 := HL.out.2.1
                exact ⟨i + 1, la, lc, by rw [Int.natCast_add]; rfl, by omega, by rw [e, ← e2], by rw [e, ← e2]; exact HO3.out, HKR.out.trans HK3.out⟩
              case measure => simp only [intOf]; omega
        · obtain rfl : i = n := by omega
          have he : l = atL s mx my L := by
            have h1 := HL.out.1
            rwa [HN.out, List.take_length] at h1
          have HE := Lib.hid he
          clear he hK bR
          go_wp2
          go_ret
          have e1 := HE.out
          have e2 := HL.out.2.1
          have h2 := owns_base HOw.out (HKW.out.size)
          rw [uf_flat] at h2
          subst e2
          rw [← e1]
          exact ⟨la, lc, rfl, HKW.out.trans HKR.out, h2⟩
    | _ => exact hpost.elim
end Gx
end Go.Proofs.Ytdbpfbokfmpgcaa
