/-
HxM: a step: the grid and the document's answer side by side.
-/
import Derived.Test.YtdbpfbokfmpgcaaZbkHxI
import Derived.Test.YtdbpfbokfmpgcaaZblHxJ
import Derived.Test.YtdbpfbokfmpgcaaZbmHxK
import Derived.Test.YtdbpfbokfmpgcaaZbnHxL
namespace Go.Proofs.Ytdbpfbokfmpgcaa
open Go.RowKit Go.Shelf
set_option linter.unusedVariables false
set_option linter.unusedSimpArgs false
set_option linter.ambiguousOpen false
attribute [local go_sem] Oper.semAt_some
namespace Gx
open Mem Gr Gs
/-- the document's grid behind a call -/
def RP (R : Nat) (s : Int) (L' : List (Nat × Bx)) (w w' : World) : Prop := ∃ a cp, RG w' R s a cp L' ∧ Keeps (fun k => k = R) w w'
section
variable {w : World} {R : Nat} {s : Int} {a : Option Addr} {cp : Nat} {L : List (Nat × Bx)}
theorem DidG.rp {L' : List (Nat × Bx)} {w' : World} (h : DidG R s L' w w') : RP R s L' w w' := by
  obtain ⟨a', cp', h1, h2, _⟩ := h; exact ⟨a', cp', h1, h2⟩
theorem RG.rp {w' : World} (h : RG w R s a cp L) (hk : Keeps (fun _ => False) w w') : RP R s L w w' := ⟨a, cp, h.kd hk, hk.mono (fun _ _ h => h.elim)⟩
theorem id_at {id : Nat} (h : hasId L id) : ∃ (k : Nat) (q : Nat × Bx), L[k]? = some q ∧ q.1 = id := by
  obtain ⟨p, hp, e⟩ := h
  obtain ⟨k, hk, rfl⟩ := List.getElem_of_mem hp
  exact ⟨k, _, List.getElem?_eq_getElem hk, e⟩
theorem rput_t (h : RG w R s a cp L) (hr : Rise L) (hl : L.length ≤ 100000) (id : Nat) (b : Bx) :
    Calls Try.prog 23 #[.pointer (some ⟨R, 0, none⟩), .int .u32 (id : Int), .agg #[.int .i32 b.x0, .int .i32 b.y0, .int .i32 b.x1, .int .i32 b.y1]] w fun e w' => e = .returned (.int .i64 (putV id b L)) ∧ RP R s (putN id b L) w w' := by
  unfold putV putN
  by_cases hb : Right b
  · by_cases hh : hasId L id
    · obtain ⟨k, q, hk, hq⟩ := id_at hh
      simp only [hb, hh, not_true, if_false, if_true]
      refine Calls.mono (put_140 w R s a cp L h hl hr.nodup id k q hk hq b hb) ?_
      rintro e w' ⟨rfl, hk'⟩; exact ⟨rfl, h.rp hk'⟩
    · simp only [hb, hh, not_true, if_false]
      refine Calls.mono (put_ok w R s a cp L h hl id (fun p hp e => hh ⟨p, hp, e⟩) b hb) ?_
      rintro e w' ⟨rfl, hk'⟩; exact ⟨rfl, hk'.rp⟩
  · rw [if_pos hb, if_pos hb]
    refine Calls.mono (put_142 w R b hb id) ?_
    rintro e w' ⟨rfl, hk'⟩; exact ⟨rfl, h.rp hk'⟩
theorem rdel_t (h : RG w R s a cp L) (hr : Rise L) (hl : L.length ≤ 100000) (id : Nat) :
    Calls Try.prog 25 #[.pointer (some ⟨R, 0, none⟩), .int .u32 (id : Int)] w fun e w' => e = .returned (.int .i64 (delV id L)) ∧ RP R s (delB id L) w w' := by
  unfold delV
  by_cases hh : hasId L id
  · obtain ⟨k, q, hk, hq⟩ := id_at hh
    rw [if_pos hh]
    refine Calls.mono (del_yes w R s a cp L h (by omega) hr.nodup id k q hk hq) ?_
    rintro e w' ⟨rfl, hk'⟩; exact ⟨rfl, hk'.rp⟩
  · rw [if_neg hh, delB_none hh]
    refine Calls.mono (del_no w R s a cp L h (by omega) id (fun p hp e => hh ⟨p, hp, e⟩)) ?_
    rintro e w' ⟨rfl, rfl⟩; exact ⟨rfl, h.rp (Keeps.refl _ _)⟩
theorem rat_t (h : RG w R s a cp L) (hs : Size s) (hl : L.length ≤ 100000) (hR : ∀ p ∈ L, Right p.2) (px py : Int) :
    Calls Try.prog 8 #[.pointer (some ⟨R, 0, none⟩), .agg #[.int .i32 px, .int .i32 py]] w fun e w' => WantL w w' (wantAt s px py L) e := by
  unfold wantAt
  by_cases hp : On px py
  · rw [if_pos hp]; exact at_on w R s a cp L h hs hl hR px py hp
  · rw [if_neg hp]; exact at_off w R px py hp
theorem rcr_t (h : RG w R s a cp L) (hs : Size s) (hl : L.length ≤ 100000) (hR : ∀ p ∈ L, Right p.2) (px py qx qy : Int) :
    Calls Try.prog 27 #[.pointer (some ⟨R, 0, none⟩), .agg #[.int .i32 px, .int .i32 py], .agg #[.int .i32 qx, .int .i32 qy]] w fun e w' => WantL w w' (wantCr s px py qx qy L) e := by
  unfold wantCr
  by_cases hp : On px py ∧ On qx qy
  · rw [if_pos hp]; exact cross_on w R s a cp L h hs hl hR px py qx qy hp.1 hp.2
  · rw [if_neg hp]; exact cross_off w R px py qx qy hp
end
theorem wantAt_le (s px py : Int) (L : List (Nat × Bx)) : (wantAt s px py L).length ≤ L.length := by
  unfold wantAt
  split
  · exact atL_le s px py L
  · simp
theorem wantCr_le (s px py qx qy : Int) (L : List (Nat × Bx)) : (wantCr s px py qx qy L).length ≤ L.length := by
  unfold wantCr
  split
  · unfold crL; rw [List.length_map]; exact List.length_filter_le _ _
  · simp
/-- the grid and the document's, side by side -/
structure Pr (w : World) (G R : Nat) (s : Int) (L : List (Nat × Bx)) (n : Nat) (F : Nat → Prop) : Prop where
  gd : Gd w G s (inList L) n F
  rg : ∃ a cp, RG w R s a cp L
  rise : Rise L
  len : L.length ≤ n
  right : ∀ p ∈ L, Right p.2
section
variable {w w' : World} {G R : Nat} {s : Int} {L : List (Nat × Bx)} {n : Nat} {F : Nat → Prop}
theorem gd_ne {S : Nat → Bx → Prop} {a : Option Addr} {cp : Nat} (h : Gd w G s S n F) (hr : RG w R s a cp L) : G ≠ R ∧ ¬ F R ∧ ∀ k, (Value.slice a L.length cp).ownBlock = some k → ¬ F k ∧ k ≠ G := by
  obtain ⟨cs, hcs⟩ := h.blk
  refine ⟨hcs.ne_ hr.blk (by decide), h.not_ hr.blk (by decide), fun k hk => ?_⟩
  rcases hr.own.2 with ⟨h0, _⟩ | ⟨g, cap, cur, hv, _, hh, _⟩
  · rw [h0] at hk; cases hk
  · rw [hv] at hk
    have e : g = k := by simpa [Value.ownBlock] using hk
    subst e
    have hb : Blk w g 68 cur.toList := by unfold Blk; simpa using hh
    exact ⟨h.not_ hb (by decide), hb.ne_ hcs (by decide)⟩
theorem Pr.kd (h : Pr w G R s L n F) (hk : Keeps (fun _ => False) w w') : Pr w' G R s L n F := by
  obtain ⟨a, cp, h2⟩ := h.rg
  exact ⟨h.gd.kd hk, ⟨a, cp, h2.kd hk⟩, h.rise, h.len, h.right⟩
theorem Pr.more (h : Pr w G R s L n F) : Pr w G R s L (n + 1) F := ⟨h.gd.more (by omega), h.rg, h.rise, by have := h.len; omega, h.right⟩
/-- the two behind a turn of both -/
theorem Pr.turn {w1 w2 : World} {L' : List (Nat × Bx)} {F' : Nat → Prop} (h : Pr w G R s L n F) (h1 : Gd w1 G s (inList L') (n + 1) F') (hk1 : Keeps F w w1) (hF : ∀ k, F' k → F k ∨ w.heap.size ≤ k) (h2 : RP R s L' w1 w2) (hr : Rise L') (hl : L'.length ≤ n + 1) (hR : ∀ p ∈ L', Right p.2) :
    Pr w2 G R s L' (n + 1) F' ∧ Keeps (fun k => F k ∨ k = R) w w2 := by
  obtain ⟨a, cp, h3⟩ := h.rg
  obtain ⟨n1, n2, n3⟩ := gd_ne h.gd h3
  have h3' := h3.keeps hk1 n2 (fun k hk => (n3 k hk).1)
  obtain ⟨m1, m2, m3⟩ := gd_ne h1 h3'
  obtain ⟨a', cp', h4, hk2⟩ := h2
  exact ⟨⟨h1.keeps hk2 m1 (fun k hk e => m2 (e ▸ hk)), ⟨a', cp', h4⟩, hr, hl, hR⟩, (hk1.mono (fun _ _ h => .inl h)).then hk2 (fun _ _ e => .inr e)⟩
theorem putN_ok (hr : Rise L) (hR : ∀ p ∈ L, Right p.2) (id : Nat) (b : Bx) : Rise (putN id b L) ∧ (putN id b L).length ≤ L.length + 1 ∧ ∀ p ∈ putN id b L, Right p.2 := by
  unfold putN
  split
  · exact ⟨hr, by omega, hR⟩
  · rename_i hb
    split
    · exact ⟨hr, by omega, hR⟩
    · rename_i hh
      refine ⟨hr.ins (fun p hp e => hh ⟨p, hp, e⟩), by rw [insB_length]; omega, fun p hp => ?_⟩
      rcases mem_insB.1 hp with hp | rfl
      · exact hR p hp
      · exact Classical.not_not.1 hb
theorem delB_ok (hr : Rise L) (hR : ∀ p ∈ L, Right p.2) (id : Nat) : Rise (delB id L) ∧ (delB id L).length ≤ L.length + 1 ∧ ∀ p ∈ delB id L, Right p.2 := by
  refine ⟨hr.del, Nat.le_succ_of_le (List.length_filter_le _ _), fun p hp => hR p (List.mem_filter.1 hp).1⟩
end
/-- what a step leaves -/
def Step2 (G R : Nat) (s : Int) (n : Nat) (F : Nat → Prop) (w w' : World) : Prop := ∃ L' F', Pr w' G R s L' (n + 1) F' ∧ Keeps (fun k => F k ∨ k = R) w w' ∧ ∀ k, F' k → F k ∨ w.heap.size ≤ k
theorem Pr.still {w w' : World} {G R : Nat} {s : Int} {L : List (Nat × Bx)} {n : Nat} {F : Nat → Prop} (h : Pr w G R s L n F) (hk : Keeps (fun _ => False) w w') : Step2 G R s n F w w' :=
  ⟨L, F, (h.kd hk).more, hk.mono (fun _ _ h => h.elim), fun _ h => .inl h⟩
set_option maxHeartbeats 4000000 in
set_option maxRecDepth 100000 in
theorem books_yes (w : World) (G R : Nat) (s : Int) (L : List (Nat × Bx)) (n : Nat) (F : Nat → Prop) (h : Pr w G R s L n F) (hs : Size s) (hn : n ≤ 60000) :
    Calls Try.prog 11 #[.pointer (some ⟨G, 0, none⟩), .pointer (some ⟨R, 0, none⟩)] w fun e w' => e = .returned (.bool true) ∧ Keeps (fun _ => False) w w' := by
  obtain ⟨a, cp, hrg⟩ := h.rg
  obtain ⟨z1, z2, z3⟩ := gd_books h.gd h.rise
  have hl : L.length ≤ 100000 := by have := h.len; omega
  have y2 := fun W (hk : Keeps (fun _ => False) w W) => apart_r W R s a cp L (hrg.kd hk) hs hl h.right
  have y3 := fun W (hk : Keeps (fun _ => False) w W) => cells_all W R s a cp L (hrg.kd hk) hs hl h.right
  have HSB := Lib.hid (show ∀ W', Keeps (fun _ => False) w W' → ∀ i : Nat, W'.cell? ⟨R, i, none⟩ = ([.int .i64 s, .slice a L.length cp] : List Value)[i]? from fun W' hk => (hrg.kd hk).blk.cell)
  obtain ⟨m, hm⟩ : ∃ m : Nat, m = L.length := ⟨_, rfl⟩
  obtain ⟨m2, hm2⟩ : ∃ m : Nat, m = (farL s L).length := ⟨_, rfl⟩
  obtain ⟨m3, hm3⟩ : ∃ m : Nat, m = (allC s [] L).length := ⟨_, rfl⟩
  rw [← hm] at z1 HSB
  rw [← hm2] at z2 y2
  rw [← hm3] at z3 y3
  have HZ := Lib.hid (And.intro z1 (And.intro z2 z3))
  have HY := Lib.hid (And.intro y2 y3)
  have HK0 := Lib.hid (Keeps.refl (fun _ => False) w)
  clear h hrg hm hm2 hm3 hl hs hn z1 z2 z3 y2 y3
  go_enter Try.func11, Try.ntmps11
  go_wp2
  go_region_held3 (fun W => ∀ i : Nat, W.cell? ⟨R, i, none⟩ = ([.int .i64 s, .slice a m cp] : List Value)[i]?) (first | with_reducible assumption | exact HSB.out _ (by first | exact HK2.out | (refine HK2.out.trans ?_; (repeat (first | exact Keeps.refl _ _ | refine Keeps.alloc ?_ _ | refine Keeps.drew ?_)); done) | exact HK1.out | (refine HK1.out.trans ?_; (repeat (first | exact Keeps.refl _ _ | refine Keeps.alloc ?_ _ | refine Keeps.drew ?_)); done) | (repeat (first | exact Keeps.refl _ _ | refine Keeps.alloc ?_ _ | refine Keeps.drew ?_)))) (first
    | (go_at_call 13; (with_reducible refine (HZ.out.1 _ (by (repeat (first | exact Keeps.refl _ _ | refine Keeps.alloc ?_ _ | refine Keeps.drew ?_)))).mono ?_); rintro e w1 ⟨rfl, rfl⟩)
    | (go_at_call 28; (with_reducible refine (HZ.out.2.1 _ (by (repeat (first | exact Keeps.refl _ _ | refine Keeps.alloc ?_ _ | refine Keeps.drew ?_)))).mono ?_); rintro e w1 ⟨rfl, rfl⟩)
    | (go_at_call 29; (with_reducible refine (HY.out.1 _ (by (repeat (first | exact Keeps.refl _ _ | refine Keeps.alloc ?_ _ | refine Keeps.drew ?_)))).mono ?_); rintro e w1 ⟨rfl, hk1⟩; have HK1 := Lib.hid (Keeps.trans (show Keeps (fun _ => False) w _ from by (repeat (first | exact Keeps.refl _ _ | refine Keeps.alloc ?_ _ | refine Keeps.drew ?_))) hk1); clear hk1)
    | (go_at_call 30; (with_reducible refine (HZ.out.2.2 _ (by first | exact HK1.out | (refine HK1.out.trans ?_; (repeat (first | exact Keeps.refl _ _ | refine Keeps.alloc ?_ _ | refine Keeps.drew ?_))))).mono ?_); rintro e w2 ⟨rfl, rfl⟩)
    | (go_at_call 31; (with_reducible refine (HY.out.2 _ (by first | exact HK1.out | (refine HK1.out.trans ?_; (repeat (first | exact Keeps.refl _ _ | refine Keeps.alloc ?_ _ | refine Keeps.drew ?_))))).mono ?_); rintro e w2 ⟨rfl, hk2⟩; have HK2 := Lib.hid (Keeps.trans (show Keeps (fun _ => False) w _ from by first | exact HK1.out | (refine HK1.out.trans ?_; (repeat (first | exact Keeps.refl _ _ | refine Keeps.alloc ?_ _ | refine Keeps.drew ?_)))) hk2); clear hk2))
  all_goals
    go_wp2
    go_ret
    exact ⟨rfl, by first | exact HK2.out | (refine HK2.out.trans ?_; (repeat (first | exact Keeps.refl _ _ | refine Keeps.alloc ?_ _ | refine Keeps.drew ?_)))⟩
theorem step2_of {w w0 w2 : World} {G R : Nat} {s : Int} {n : Nat} {F : Nat → Prop} (h : Step2 G R s n F w0 w2) (hk : Keeps (fun _ => False) w w0) : Step2 G R s n F w w2 := by
  obtain ⟨L', F', h1, h2, h3⟩ := h
  exact ⟨L', F', h1, (hk.mono (fun _ _ h => h.elim)).then h2 (fun _ _ h => h), fun k hk' => (h3 k hk').imp_right (fun h => Nat.le_trans hk.size h)⟩
theorem gd_kd1 {w w' : World} {G : Nat} {s : Int} {S : Nat → Bx → Prop} {n : Nat} {F : Nat → Prop} (h : Gd w G s S n F) (hk : Keeps (fun _ => False) w w') : Gd w' G s S (n + 1) F := (h.kd hk).more (by omega)
set_option maxHeartbeats 4000000 in
set_option maxRecDepth 100000 in
theorem does_put (w : World) (G R : Nat) (s : Int) (L : List (Nat × Bx)) (n : Nat) (F : Nat → Prop) (h : Pr w G R s L n F) (hs : Size s) (hn : n ≤ 60000) (id : Nat) (b : Bx) (px py qx qy : Int) (kind : Int) (hkind : kind = 1) : Calls Try.prog 9 #[.pointer (some ⟨G, 0, none⟩), .pointer (some ⟨R, 0, none⟩), .agg #[.int .i64 kind, .int .u32 (id : Int), .int .i32 b.x0, .int .i32 b.y0, .int .i32 b.x1, .int .i32 b.y1, .int .i32 px, .int .i32 py, .int .i32 qx, .int .i32 qy]] w fun e w' => e = .returned (.bool true) ∧ Step2 G R s n F w w' := by
  have e1 : (kind == 1) = true := by rw [hkind]; rfl
  clear hkind
  (go_enter Try.func9, Try.ntmps9)
  have hFl : ∀ k, F k → k < w.heap.size := fun k hk => h.gd.lt hk
  have hRl : R < w.heap.size := by obtain ⟨a, cp, h3⟩ := h.rg; exact h3.blk.lt
  have hL1 := h.len
  go_wp2
  (obtain ⟨B5, hB5⟩ : ∃ B, B = w.heap.size := ⟨_, rfl⟩; obtain ⟨w0, hw0⟩ : ∃ w0, w0 = w.alloc (.cells #[.int .i64 kind, .int .u32 (id : Int), .int .i32 b.x0, .int .i32 b.y0, .int .i32 b.x1, .int .i32 b.y1, .int .i32 px, .int .i32 py, .int .i32 qx, .int .i32 qy] 37) := ⟨_, rfl⟩; have hk0 : Keeps (fun _ => False) w w0 := (by rw [hw0]; (repeat (first | exact Keeps.refl _ _ | refine Keeps.alloc ?_ _ | refine Keeps.drew ?_))); have hb5 : Blk w0 B5 37 [.int .i64 kind, .int .u32 (id : Int), .int .i32 b.x0, .int .i32 b.y0, .int .i32 b.x1, .int .i32 b.y1, .int .i32 px, .int .i32 py, .int .i32 qx, .int .i32 qy] := (by rw [hw0, hB5]; exact Blk.new w 37 [.int .i64 kind, .int .u32 (id : Int), .int .i32 b.x0, .int .i32 b.y0, .int .i32 b.x1, .int .i32 b.y1, .int .i32 px, .int .i32 py, .int .i32 qx, .int .i32 qy]); have hP0 := h.kd hk0; have HK0 := Lib.hid hk0; have H5 := Lib.hid hb5; have HB := Lib.hid hB5; rw [← hw0, ← hB5]; have HW0 := Lib.hid hw0; clear hk0 hb5 hB5 hw0)
  have hBF : ¬ F B5 := fun e => by have := hFl _ e; have := HB.out; omega
  have hBR : B5 ≠ R := by have := HB.out; omega
  obtain ⟨a, cp, h3⟩ := hP0.rg
  obtain ⟨n1, n2, n3⟩ := gd_ne hP0.gd h3
  have zg := fun W (hk : Keeps (fun _ => False) w0 W) => gd_put2 (hP0.gd.kd hk) hs (by omega) id b
  have zr := fun W (hk : Keeps F w0 W) => rput_t (h3.keeps hk n2 (fun k hk => (n3 k hk).1)) h.rise (by omega) id b
  obtain ⟨v, hv⟩ : ∃ v, v = putV id b L := ⟨_, rfl⟩
  rw [← hv] at zg zr
  have HG := Lib.hid (And.intro zg zr)
  have HP := Lib.hid (And.intro hP0 (putN_ok h.rise h.right id b))
  clear hv zg zr h3 n1 n2 n3 hP0 hFl hRl h hs hn hL1
  rename_i Kx hKx
  go_region_held3 (fun W => ∀ i : Nat, W.cell? ⟨B5, i, none⟩ = ([.int .i64 kind, .int .u32 (id : Int), .int .i32 b.x0, .int .i32 b.y0, .int .i32 b.x1, .int .i32 b.y1, .int .i32 px, .int .i32 py, .int .i32 qx, .int .i32 qy] : List Value)[i]?) (first | with_reducible assumption | exact (H5.out.keeps HT.out.2 (fun e => e.elim hBF hBR)).cell | exact ((H5.out.keeps HG1.out.2.1 hBF).keeps (show Keeps (fun _ => False) _ _ from by (repeat (first | exact Keeps.refl _ _ | refine Keeps.alloc ?_ _ | refine Keeps.drew ?_))) (fun h => h)).cell | exact (H5.out.keeps (show Keeps (fun _ => False) _ _ from by (repeat (first | exact Keeps.refl _ _ | refine Keeps.alloc ?_ _ | refine Keeps.drew ?_))) (fun h => h)).cell) (first
    | (go_at_call 12; (with_reducible refine (HG.out.1 _ (by (repeat (first | exact Keeps.refl _ _ | refine Keeps.alloc ?_ _ | refine Keeps.drew ?_)))).mono ?_); rintro e w1 ⟨rfl, F', g1, g2, g3⟩; have hkw := Keeps.then (S := F) ((show Keeps (fun _ => False) w0 _ from by (repeat (first | exact Keeps.refl _ _ | refine Keeps.alloc ?_ _ | refine Keeps.drew ?_))).mono (fun _ _ h => h.elim)) g2 (fun _ _ h => h); have HG1 := Lib.hid (And.intro g1 (And.intro hkw (show ∀ k, F' k → F k ∨ w0.heap.size ≤ k from fun k hk => (g3 k hk).imp_right (fun h => by simpa using h)))); clear g1 g2 g3 hkw)
    | (go_at_call 23; (with_reducible refine (HG.out.2 _ (HG1.out.2.1.then (show Keeps (fun _ => False) w1 _ from by (repeat (first | exact Keeps.refl _ _ | refine Keeps.alloc ?_ _ | refine Keeps.drew ?_))) (fun _ _ h => h.elim))).mono ?_); rintro e w2 ⟨rfl, hrp2⟩; have HT := Lib.hid (Pr.turn HP.out.1 (Gd.kd HG1.out.1 (show Keeps (fun _ => False) w1 _ from by (repeat (first | exact Keeps.refl _ _ | refine Keeps.alloc ?_ _ | refine Keeps.drew ?_)))) (HG1.out.2.1.then (show Keeps (fun _ => False) w1 _ from by (repeat (first | exact Keeps.refl _ _ | refine Keeps.alloc ?_ _ | refine Keeps.drew ?_))) (fun _ _ h => h.elim)) HG1.out.2.2 hrp2 HP.out.2.1 (by have := HP.out.2.2.1; have := HP.out.1.len; omega) HP.out.2.2.2); clear hrp2))
  refine hKx _ _ ?_
  clear hKx
  go_wp2
  go_ret
  exact ⟨rfl, step2_of ⟨_, F', HT.out.1, HT.out.2, HG1.out.2.2⟩ HK0.out⟩
set_option maxHeartbeats 4000000 in
set_option maxRecDepth 100000 in
theorem does_del (w : World) (G R : Nat) (s : Int) (L : List (Nat × Bx)) (n : Nat) (F : Nat → Prop) (h : Pr w G R s L n F) (hs : Size s) (hn : n ≤ 60000) (id : Nat) (b : Bx) (px py qx qy : Int) (kind : Int) (hkind : kind = 2) : Calls Try.prog 9 #[.pointer (some ⟨G, 0, none⟩), .pointer (some ⟨R, 0, none⟩), .agg #[.int .i64 kind, .int .u32 (id : Int), .int .i32 b.x0, .int .i32 b.y0, .int .i32 b.x1, .int .i32 b.y1, .int .i32 px, .int .i32 py, .int .i32 qx, .int .i32 qy]] w fun e w' => e = .returned (.bool true) ∧ Step2 G R s n F w w' := by
  have e1 : (kind == 1) = false := by rw [hkind]; rfl
  have e2 : (kind == 2) = true := by rw [hkind]; rfl
  clear hkind
  (go_enter Try.func9, Try.ntmps9)
  have hFl : ∀ k, F k → k < w.heap.size := fun k hk => h.gd.lt hk
  have hRl : R < w.heap.size := by obtain ⟨a, cp, h3⟩ := h.rg; exact h3.blk.lt
  have hL1 := h.len
  go_wp2
  (obtain ⟨B5, hB5⟩ : ∃ B, B = w.heap.size := ⟨_, rfl⟩; obtain ⟨w0, hw0⟩ : ∃ w0, w0 = w.alloc (.cells #[.int .i64 kind, .int .u32 (id : Int), .int .i32 b.x0, .int .i32 b.y0, .int .i32 b.x1, .int .i32 b.y1, .int .i32 px, .int .i32 py, .int .i32 qx, .int .i32 qy] 37) := ⟨_, rfl⟩; have hk0 : Keeps (fun _ => False) w w0 := (by rw [hw0]; (repeat (first | exact Keeps.refl _ _ | refine Keeps.alloc ?_ _ | refine Keeps.drew ?_))); have hb5 : Blk w0 B5 37 [.int .i64 kind, .int .u32 (id : Int), .int .i32 b.x0, .int .i32 b.y0, .int .i32 b.x1, .int .i32 b.y1, .int .i32 px, .int .i32 py, .int .i32 qx, .int .i32 qy] := (by rw [hw0, hB5]; exact Blk.new w 37 [.int .i64 kind, .int .u32 (id : Int), .int .i32 b.x0, .int .i32 b.y0, .int .i32 b.x1, .int .i32 b.y1, .int .i32 px, .int .i32 py, .int .i32 qx, .int .i32 qy]); have hP0 := h.kd hk0; have HK0 := Lib.hid hk0; have H5 := Lib.hid hb5; have HB := Lib.hid hB5; rw [← hw0, ← hB5]; have HW0 := Lib.hid hw0; clear hk0 hb5 hB5 hw0)
  have hBF : ¬ F B5 := fun e => by have := hFl _ e; have := HB.out; omega
  have hBR : B5 ≠ R := by have := HB.out; omega
  obtain ⟨a, cp, h3⟩ := hP0.rg
  obtain ⟨n1, n2, n3⟩ := gd_ne hP0.gd h3
  have zg := fun W (hk : Keeps (fun _ => False) w0 W) => gd_del2 (hP0.gd.kd hk) hs id
  have zr := fun W (hk : Keeps F w0 W) => rdel_t (h3.keeps hk n2 (fun k hk => (n3 k hk).1)) h.rise (by omega) id
  obtain ⟨v, hv⟩ : ∃ v, v = delV id L := ⟨_, rfl⟩
  rw [← hv] at zg zr
  have HG := Lib.hid (And.intro zg zr)
  have HP := Lib.hid (And.intro hP0 (delB_ok h.rise h.right id ))
  clear hv zg zr h3 n1 n2 n3 hP0 hFl hRl h hs hn hL1
  rename_i Kx hKx
  go_region_held3 (fun W => ∀ i : Nat, W.cell? ⟨B5, i, none⟩ = ([.int .i64 kind, .int .u32 (id : Int), .int .i32 b.x0, .int .i32 b.y0, .int .i32 b.x1, .int .i32 b.y1, .int .i32 px, .int .i32 py, .int .i32 qx, .int .i32 qy] : List Value)[i]?) (first | with_reducible assumption | exact (H5.out.keeps HT.out.2 (fun e => e.elim hBF hBR)).cell | exact ((H5.out.keeps HG1.out.2.1 hBF).keeps (show Keeps (fun _ => False) _ _ from by (repeat (first | exact Keeps.refl _ _ | refine Keeps.alloc ?_ _ | refine Keeps.drew ?_))) (fun h => h)).cell | exact (H5.out.keeps (show Keeps (fun _ => False) _ _ from by (repeat (first | exact Keeps.refl _ _ | refine Keeps.alloc ?_ _ | refine Keeps.drew ?_))) (fun h => h)).cell) (first
    | (go_at_call 24; (with_reducible refine (HG.out.1 _ (by (repeat (first | exact Keeps.refl _ _ | refine Keeps.alloc ?_ _ | refine Keeps.drew ?_)))).mono ?_); rintro e w1 ⟨rfl, F', g1, g2, g3⟩; have hkw := Keeps.then (S := F) ((show Keeps (fun _ => False) w0 _ from by (repeat (first | exact Keeps.refl _ _ | refine Keeps.alloc ?_ _ | refine Keeps.drew ?_))).mono (fun _ _ h => h.elim)) g2 (fun _ _ h => h); have HG1 := Lib.hid (And.intro g1 (And.intro hkw (show ∀ k, F' k → F k ∨ w0.heap.size ≤ k from fun k hk => (g3 k hk).imp_right (fun h => by simpa using h)))); clear g1 g2 g3 hkw)
    | (go_at_call 25; (with_reducible refine (HG.out.2 _ (HG1.out.2.1.then (show Keeps (fun _ => False) w1 _ from by (repeat (first | exact Keeps.refl _ _ | refine Keeps.alloc ?_ _ | refine Keeps.drew ?_))) (fun _ _ h => h.elim))).mono ?_); rintro e w2 ⟨rfl, hrp2⟩; have HT := Lib.hid (Pr.turn HP.out.1 (gd_kd1 HG1.out.1 (show Keeps (fun _ => False) w1 _ from by (repeat (first | exact Keeps.refl _ _ | refine Keeps.alloc ?_ _ | refine Keeps.drew ?_)))) (HG1.out.2.1.then (show Keeps (fun _ => False) w1 _ from by (repeat (first | exact Keeps.refl _ _ | refine Keeps.alloc ?_ _ | refine Keeps.drew ?_))) (fun _ _ h => h.elim)) HG1.out.2.2 hrp2 HP.out.2.1 (by have := HP.out.2.2.1; have := HP.out.1.len; omega) HP.out.2.2.2); clear hrp2))
  refine hKx _ _ ?_
  clear hKx
  go_wp2
  go_ret
  exact ⟨rfl, step2_of ⟨_, F', HT.out.1, HT.out.2, HG1.out.2.2⟩ HK0.out⟩
set_option maxHeartbeats 4000000 in
set_option maxRecDepth 100000 in
theorem does_at (w : World) (G R : Nat) (s : Int) (L : List (Nat × Bx)) (n : Nat) (F : Nat → Prop) (h : Pr w G R s L n F) (hs : Size s) (hn : n ≤ 60000) (id : Nat) (b : Bx) (px py qx qy : Int) (kind : Int) (hkind : kind = 3) : Calls Try.prog 9 #[.pointer (some ⟨G, 0, none⟩), .pointer (some ⟨R, 0, none⟩), .agg #[.int .i64 kind, .int .u32 (id : Int), .int .i32 b.x0, .int .i32 b.y0, .int .i32 b.x1, .int .i32 b.y1, .int .i32 px, .int .i32 py, .int .i32 qx, .int .i32 qy]] w fun e w' => e = .returned (.bool true) ∧ Step2 G R s n F w w' := by
  have e1 : (kind == 1) = false := by rw [hkind]; rfl
  have e2 : (kind == 2) = false := by rw [hkind]; rfl
  have e3 : (kind == 3) = true := by rw [hkind]; rfl
  clear hkind
  (go_enter Try.func9, Try.ntmps9)
  have hL1 := h.len
  go_wp2
  (obtain ⟨B5, hB5⟩ : ∃ B, B = w.heap.size := ⟨_, rfl⟩; obtain ⟨w0, hw0⟩ : ∃ w0, w0 = w.alloc (.cells #[.int .i64 kind, .int .u32 (id : Int), .int .i32 b.x0, .int .i32 b.y0, .int .i32 b.x1, .int .i32 b.y1, .int .i32 px, .int .i32 py, .int .i32 qx, .int .i32 qy] 37) := ⟨_, rfl⟩; have hk0 : Keeps (fun _ => False) w w0 := (by rw [hw0]; (repeat (first | exact Keeps.refl _ _ | refine Keeps.alloc ?_ _ | refine Keeps.drew ?_))); have hb5 : Blk w0 B5 37 [.int .i64 kind, .int .u32 (id : Int), .int .i32 b.x0, .int .i32 b.y0, .int .i32 b.x1, .int .i32 b.y1, .int .i32 px, .int .i32 py, .int .i32 qx, .int .i32 qy] := (by rw [hw0, hB5]; exact Blk.new w 37 [.int .i64 kind, .int .u32 (id : Int), .int .i32 b.x0, .int .i32 b.y0, .int .i32 b.x1, .int .i32 b.y1, .int .i32 px, .int .i32 py, .int .i32 qx, .int .i32 qy]); have hP0 := h.kd hk0; have HK0 := Lib.hid hk0; have H5 := Lib.hid hb5; have HB := Lib.hid hB5; rw [← hw0, ← hB5]; have HW0 := Lib.hid hw0; clear hk0 hb5 hB5 hw0)
  obtain ⟨a, cp, h3⟩ := hP0.rg
  have zg := fun W (hk : Keeps (fun _ => False) w0 W) => gd_at2 (hP0.gd.kd hk) h.rise hs (by omega) px py
  have zr := fun W (hk : Keeps (fun _ => False) w0 W) => rat_t (h3.kd hk) hs (by omega) h.right px py
  have hle := wantAt_le s px py L
  obtain ⟨V, hV⟩ : ∃ V, V = wantAt s px py L := ⟨_, rfl⟩
  rw [← hV] at zg zr hle
  have HG := Lib.hid (And.intro zg zr)
  have HP := Lib.hid h
  have HL := Lib.hid (show V.length ≤ 1000000 by omega)
  clear hV zg zr h3 hP0 h hs hn hL1 hle
  rename_i Kx hKx
  go_region_held3 (fun W => ∀ i : Nat, W.cell? ⟨B5, i, none⟩ = ([.int .i64 kind, .int .u32 (id : Int), .int .i32 b.x0, .int .i32 b.y0, .int .i32 b.x1, .int .i32 b.y1, .int .i32 px, .int .i32 py, .int .i32 qx, .int .i32 qy] : List Value)[i]?) (first | with_reducible assumption | exact (H5.out.keeps (show Keeps (fun _ => False) _ _ from by first | exact HT3.out | (refine HT3.out.trans ?_; (repeat (first | exact Keeps.refl _ _ | refine Keeps.alloc ?_ _ | refine Keeps.drew ?_)); done) | exact HT2.out | (refine HT2.out.trans ?_; (repeat (first | exact Keeps.refl _ _ | refine Keeps.alloc ?_ _ | refine Keeps.drew ?_)); done) | exact HT1.out | (refine HT1.out.trans ?_; (repeat (first | exact Keeps.refl _ _ | refine Keeps.alloc ?_ _ | refine Keeps.drew ?_)); done) | (repeat (first | exact Keeps.refl _ _ | refine Keeps.alloc ?_ _ | refine Keeps.drew ?_))) (fun h => h)).cell) (first
    | (go_at_call 7; (with_reducible refine (HG.out.1 _ (by (repeat (first | exact Keeps.refl _ _ | refine Keeps.alloc ?_ _ | refine Keeps.drew ?_)))).mono ?_); rintro e w1 hTold; obtain ⟨VB, rfl, g1, g2⟩ := hTold; have HT1 := Lib.hid ((show Keeps (fun _ => False) w0 _ from by (repeat (first | exact Keeps.refl _ _ | refine Keeps.alloc ?_ _ | refine Keeps.drew ?_))).trans g1); have HV1 := Lib.hid g2; clear g1 g2)
    | (go_at_call 8; (with_reducible refine (HG.out.2 _ (by first | exact HT1.out | (refine HT1.out.trans ?_; (repeat (first | exact Keeps.refl _ _ | refine Keeps.alloc ?_ _ | refine Keeps.drew ?_))))).mono ?_); rintro e w2 hWant; obtain ⟨oa, oc, rfl, g1, g2⟩ := hWant; have hk12 := (show Keeps (fun _ => False) w1 _ from by (repeat (first | exact Keeps.refl _ _ | refine Keeps.alloc ?_ _ | refine Keeps.drew ?_))).trans g1; have HT2 := Lib.hid (HT1.out.trans hk12); have HV2 := Lib.hid (HV1.out.keeps hk12 (fun _ h => h.elim)); have HO2 := Lib.hid g2; clear g1 g2 hk12)
    | (go_at_call 10; (with_reducible refine (tells_yes VB oa _ oc _ _ V rfl HL.out _ (owns_keeps HO2.out (show Keeps (fun _ => False) w2 _ from by (repeat (first | exact Keeps.refl _ _ | refine Keeps.alloc ?_ _ | refine Keeps.drew ?_))) (fun _ _ h => h)) (HV2.out.keeps (show Keeps (fun _ => False) w2 _ from by (repeat (first | exact Keeps.refl _ _ | refine Keeps.alloc ?_ _ | refine Keeps.drew ?_))) (fun _ h => h.elim))).mono ?_); rintro e w3 ⟨rfl, hk3⟩; have HT3 := Lib.hid (HT2.out.trans ((show Keeps (fun _ => False) w2 _ from by (repeat (first | exact Keeps.refl _ _ | refine Keeps.alloc ?_ _ | refine Keeps.drew ?_))).trans hk3)); clear hk3))
  refine hKx _ _ ?_
  clear hKx
  go_wp2
  go_ret
  exact ⟨rfl, HP.out.still (HK0.out.trans (by first | exact HT3.out | (refine HT3.out.trans ?_; (repeat (first | exact Keeps.refl _ _ | refine Keeps.alloc ?_ _ | refine Keeps.drew ?_)))))⟩
set_option maxHeartbeats 4000000 in
set_option maxRecDepth 100000 in
theorem does_cr (w : World) (G R : Nat) (s : Int) (L : List (Nat × Bx)) (n : Nat) (F : Nat → Prop) (h : Pr w G R s L n F) (hs : Size s) (hn : n ≤ 60000) (id : Nat) (b : Bx) (px py qx qy : Int) (kind : Int) (hkind : kind = 4) : Calls Try.prog 9 #[.pointer (some ⟨G, 0, none⟩), .pointer (some ⟨R, 0, none⟩), .agg #[.int .i64 kind, .int .u32 (id : Int), .int .i32 b.x0, .int .i32 b.y0, .int .i32 b.x1, .int .i32 b.y1, .int .i32 px, .int .i32 py, .int .i32 qx, .int .i32 qy]] w fun e w' => e = .returned (.bool true) ∧ Step2 G R s n F w w' := by
  have e1 : (kind == 1) = false := by rw [hkind]; rfl
  have e2 : (kind == 2) = false := by rw [hkind]; rfl
  have e3 : (kind == 3) = false := by rw [hkind]; rfl
  have e4 : (kind == 4) = true := by rw [hkind]; rfl
  clear hkind
  (go_enter Try.func9, Try.ntmps9)
  have hL1 := h.len
  go_wp2
  (obtain ⟨B5, hB5⟩ : ∃ B, B = w.heap.size := ⟨_, rfl⟩; obtain ⟨w0, hw0⟩ : ∃ w0, w0 = w.alloc (.cells #[.int .i64 kind, .int .u32 (id : Int), .int .i32 b.x0, .int .i32 b.y0, .int .i32 b.x1, .int .i32 b.y1, .int .i32 px, .int .i32 py, .int .i32 qx, .int .i32 qy] 37) := ⟨_, rfl⟩; have hk0 : Keeps (fun _ => False) w w0 := (by rw [hw0]; (repeat (first | exact Keeps.refl _ _ | refine Keeps.alloc ?_ _ | refine Keeps.drew ?_))); have hb5 : Blk w0 B5 37 [.int .i64 kind, .int .u32 (id : Int), .int .i32 b.x0, .int .i32 b.y0, .int .i32 b.x1, .int .i32 b.y1, .int .i32 px, .int .i32 py, .int .i32 qx, .int .i32 qy] := (by rw [hw0, hB5]; exact Blk.new w 37 [.int .i64 kind, .int .u32 (id : Int), .int .i32 b.x0, .int .i32 b.y0, .int .i32 b.x1, .int .i32 b.y1, .int .i32 px, .int .i32 py, .int .i32 qx, .int .i32 qy]); have hP0 := h.kd hk0; have HK0 := Lib.hid hk0; have H5 := Lib.hid hb5; have HB := Lib.hid hB5; rw [← hw0, ← hB5]; have HW0 := Lib.hid hw0; clear hk0 hb5 hB5 hw0)
  obtain ⟨a, cp, h3⟩ := hP0.rg
  have zg := fun W (hk : Keeps (fun _ => False) w0 W) => gd_cross2 (hP0.gd.kd hk) h.rise hs (by omega) px py qx qy
  have zr := fun W (hk : Keeps (fun _ => False) w0 W) => rcr_t (h3.kd hk) hs (by omega) h.right px py qx qy
  have hle := wantCr_le s px py qx qy L
  obtain ⟨V, hV⟩ : ∃ V, V = wantCr s px py qx qy L := ⟨_, rfl⟩
  rw [← hV] at zg zr hle
  have HG := Lib.hid (And.intro zg zr)
  have HP := Lib.hid h
  have HL := Lib.hid (show V.length ≤ 1000000 by omega)
  clear hV zg zr h3 hP0 h hs hn hL1 hle
  rename_i Kx hKx
  go_region_held3 (fun W => ∀ i : Nat, W.cell? ⟨B5, i, none⟩ = ([.int .i64 kind, .int .u32 (id : Int), .int .i32 b.x0, .int .i32 b.y0, .int .i32 b.x1, .int .i32 b.y1, .int .i32 px, .int .i32 py, .int .i32 qx, .int .i32 qy] : List Value)[i]?) (first | with_reducible assumption | exact (H5.out.keeps (show Keeps (fun _ => False) _ _ from by first | exact HT3.out | (refine HT3.out.trans ?_; (repeat (first | exact Keeps.refl _ _ | refine Keeps.alloc ?_ _ | refine Keeps.drew ?_)); done) | exact HT2.out | (refine HT2.out.trans ?_; (repeat (first | exact Keeps.refl _ _ | refine Keeps.alloc ?_ _ | refine Keeps.drew ?_)); done) | exact HT1.out | (refine HT1.out.trans ?_; (repeat (first | exact Keeps.refl _ _ | refine Keeps.alloc ?_ _ | refine Keeps.drew ?_)); done) | (repeat (first | exact Keeps.refl _ _ | refine Keeps.alloc ?_ _ | refine Keeps.drew ?_))) (fun h => h)).cell) (first
    | (go_at_call 26; (with_reducible refine (HG.out.1 _ (by (repeat (first | exact Keeps.refl _ _ | refine Keeps.alloc ?_ _ | refine Keeps.drew ?_)))).mono ?_); rintro e w1 hTold; obtain ⟨VB, rfl, g1, g2⟩ := hTold; have HT1 := Lib.hid ((show Keeps (fun _ => False) w0 _ from by (repeat (first | exact Keeps.refl _ _ | refine Keeps.alloc ?_ _ | refine Keeps.drew ?_))).trans g1); have HV1 := Lib.hid g2; clear g1 g2)
    | (go_at_call 27; (with_reducible refine (HG.out.2 _ (by first | exact HT1.out | (refine HT1.out.trans ?_; (repeat (first | exact Keeps.refl _ _ | refine Keeps.alloc ?_ _ | refine Keeps.drew ?_))))).mono ?_); rintro e w2 hWant; obtain ⟨oa, oc, rfl, g1, g2⟩ := hWant; have hk12 := (show Keeps (fun _ => False) w1 _ from by (repeat (first | exact Keeps.refl _ _ | refine Keeps.alloc ?_ _ | refine Keeps.drew ?_))).trans g1; have HT2 := Lib.hid (HT1.out.trans hk12); have HV2 := Lib.hid (HV1.out.keeps hk12 (fun _ h => h.elim)); have HO2 := Lib.hid g2; clear g1 g2 hk12)
    | (go_at_call 10; (with_reducible refine (tells_yes VB oa _ oc _ _ V rfl HL.out _ (owns_keeps HO2.out (show Keeps (fun _ => False) w2 _ from by (repeat (first | exact Keeps.refl _ _ | refine Keeps.alloc ?_ _ | refine Keeps.drew ?_))) (fun _ _ h => h)) (HV2.out.keeps (show Keeps (fun _ => False) w2 _ from by (repeat (first | exact Keeps.refl _ _ | refine Keeps.alloc ?_ _ | refine Keeps.drew ?_))) (fun _ h => h.elim))).mono ?_); rintro e w3 ⟨rfl, hk3⟩; have HT3 := Lib.hid (HT2.out.trans ((show Keeps (fun _ => False) w2 _ from by (repeat (first | exact Keeps.refl _ _ | refine Keeps.alloc ?_ _ | refine Keeps.drew ?_))).trans hk3)); clear hk3))
  refine hKx _ _ ?_
  clear hKx
  go_wp2
  go_ret
  exact ⟨rfl, HP.out.still (HK0.out.trans (by first | exact HT3.out | (refine HT3.out.trans ?_; (repeat (first | exact Keeps.refl _ _ | refine Keeps.alloc ?_ _ | refine Keeps.drew ?_)))))⟩
theorem does_books (w : World) (G R : Nat) (s : Int) (L : List (Nat × Bx)) (n : Nat) (F : Nat → Prop) (h : Pr w G R s L n F) (hs : Size s) (hn : n ≤ 60000) (id : Nat) (b : Bx) (px py qx qy : Int) (kind : Int) (hkind : kind = 5) : Calls Try.prog 9 #[.pointer (some ⟨G, 0, none⟩), .pointer (some ⟨R, 0, none⟩), .agg #[.int .i64 kind, .int .u32 (id : Int), .int .i32 b.x0, .int .i32 b.y0, .int .i32 b.x1, .int .i32 b.y1, .int .i32 px, .int .i32 py, .int .i32 qx, .int .i32 qy]] w fun e w' => e = .returned (.bool true) ∧ Step2 G R s n F w w' := by
  have e1 : (kind == 1) = false := by rw [hkind]; rfl
  have e2 : (kind == 2) = false := by rw [hkind]; rfl
  have e3 : (kind == 3) = false := by rw [hkind]; rfl
  have e4 : (kind == 4) = false := by rw [hkind]; rfl
  have e5 : (kind == 5) = true := by rw [hkind]; rfl
  clear hkind
  (go_enter Try.func9, Try.ntmps9)
  have hk0 := (Keeps.refl (fun _ => False) w).alloc (.cells #[.int .i64 kind, .int .u32 (id : Int), .int .i32 b.x0, .int .i32 b.y0, .int .i32 b.x1, .int .i32 b.y1, .int .i32 px, .int .i32 py, .int .i32 qx, .int .i32 qy] 37)
  have HZ := Lib.hid (books_yes _ G R s L n F (h.kd hk0) hs hn)
  have HP := Lib.hid (And.intro h hk0)
  clear h hk0 hs hn
  go_wp2_with (go_at_call 11; (with_reducible refine HZ.out.mono ?_); rintro e w3 ⟨rfl, hk3⟩; have HK3 := Lib.hid hk3; clear hk3)
  go_ret
  exact ⟨rfl, HP.out.1.still (HP.out.2.trans HK3.out)⟩
theorem does_else (w : World) (G R : Nat) (s : Int) (L : List (Nat × Bx)) (n : Nat) (F : Nat → Prop) (h : Pr w G R s L n F) (hs : Size s) (hn : n ≤ 60000) (id : Nat) (b : Bx) (px py qx qy : Int) (kind : Int) (h1 : kind ≠ 1) (h2 : kind ≠ 2) (h3 : kind ≠ 3) (h4 : kind ≠ 4) (h5 : kind ≠ 5) : Calls Try.prog 9 #[.pointer (some ⟨G, 0, none⟩), .pointer (some ⟨R, 0, none⟩), .agg #[.int .i64 kind, .int .u32 (id : Int), .int .i32 b.x0, .int .i32 b.y0, .int .i32 b.x1, .int .i32 b.y1, .int .i32 px, .int .i32 py, .int .i32 qx, .int .i32 qy]] w fun e w' => e = .returned (.bool true) ∧ Step2 G R s n F w w' := by
  have e1 : (kind == 1) = false := by simpa using h1
  have e2 : (kind == 2) = false := by simpa using h2
  have e3 : (kind == 3) = false := by simpa using h3
  have e4 : (kind == 4) = false := by simpa using h4
  have e5 : (kind == 5) = false := by simpa using h5
  have HP := Lib.hid h
  clear h hs hn
  (go_enter Try.func9, Try.ntmps9)
  go_wp2
  go_ret
  exact ⟨rfl, HP.out.still (by (repeat (first | exact Keeps.refl _ _ | refine Keeps.alloc ?_ _ | refine Keeps.drew ?_)))⟩
theorem does_yes (w : World) (G R : Nat) (s : Int) (L : List (Nat × Bx)) (n : Nat) (F : Nat → Prop) (h : Pr w G R s L n F) (hs : Size s) (hn : n ≤ 60000) (id : Nat) (b : Bx) (px py qx qy : Int) (kind : Int) : Calls Try.prog 9 #[.pointer (some ⟨G, 0, none⟩), .pointer (some ⟨R, 0, none⟩), .agg #[.int .i64 kind, .int .u32 (id : Int), .int .i32 b.x0, .int .i32 b.y0, .int .i32 b.x1, .int .i32 b.y1, .int .i32 px, .int .i32 py, .int .i32 qx, .int .i32 qy]] w fun e w' => e = .returned (.bool true) ∧ Step2 G R s n F w w' := by
  by_cases h1 : kind = 1
  · exact does_put w G R s L n F h hs hn id b px py qx qy kind h1
  by_cases h2 : kind = 2
  · exact does_del w G R s L n F h hs hn id b px py qx qy kind h2
  by_cases h3 : kind = 3
  · exact does_at w G R s L n F h hs hn id b px py qx qy kind h3
  by_cases h4 : kind = 4
  · exact does_cr w G R s L n F h hs hn id b px py qx qy kind h4
  by_cases h5 : kind = 5
  · exact does_books w G R s L n F h hs hn id b px py qx qy kind h5
  exact does_else w G R s L n F h hs hn id b px py qx qy kind h1 h2 h3 h4 h5
end Gx
end Go.Proofs.Ytdbpfbokfmpgcaa
