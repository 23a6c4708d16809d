/-
FqC: the document's list of boxes: At; the first of a list.
FqP: the index and the document's list side by side; what their calls answer.
-/
import Derived.Test.YtdbpfbokfmpgcaaGreatZbhFiLHxPAppBFqAFqBFiG
import Derived.Test.YtdbpfbokfmpgcaaGreatZbuFpKFpLFpN
import Derived.Test.YtdbpfbokfmpgcaaGreatZbpFiHFiJFiKFiMFiN
import Derived.Test.YtdbpfbokfmpgcaaGreatZbrFiRFiSFiTFiU
set_option linter.unusedVariables false
set_option linter.unusedSimpArgs false
set_option linter.ambiguousOpen false
set_option maxHeartbeats 16000000
set_option maxRecDepth 100000
attribute [local go_sem] Go.Oper.semAt_some
namespace Go.Proofs.YtdbpfbokfmpgcaaGreat
theorem ZAb {p : Prop} (h : p := by first | exact HK2.out | (refine HK2.out.trans ?_; (repeat (first | exact Keeps.refl _ _ | refine Keeps.alloc ?_ _ | refine Keeps.drew ?_)); done) | (repeat (first | exact Keeps.refl _ _ | refine Keeps.alloc ?_ _ | refine Keeps.drew ?_))) : p := h
theorem Zq {p : Prop} (h : p := by
 go_roundw
 case rel =>
  have e := HA.out
  rw [if_pos rfl] at e
  have e2 := HL.out.2.1
  refine ⟨i + 1, some ⟨g', 0, none⟩, cap', ZAm, Z8, by rw [e, e2]; simp, by rw [e]; exact own_n HG.out.1 (by rw [e2]; simp), ((HKR.out.trans HK2.out).alloc _).grown HG.out.2 (fun k hk e => absurd (HO3.out.lt k e).1 Z8)⟩
 case measure => simp only [intOf]; omega) : p := h
theorem Zy {p : Prop} (h : p := by
 have HE := Lib.hid (show l = wl f L by have h1 := HL.out.1; rwa [HN.out, List.take_length] at h1)
 clear hK bR
 go_wp2
 go_ret
 have e1 := HE.out
 have e2 := HL.out.2.1
 have h2 := owns_base HOw.out (HKW.out.size)
 rw [uf_flat] at h2
 subst e2
 rw [← e1]
 exact ⟨la, lc, rfl, HKW.out.trans HKR.out, h2⟩) : p := h
theorem Z0 {p : Prop} (h : p := by
 go_wp2
 go_roundw
 case rel =>
  have e := HA.out
  rw [if_neg ZA7] at e
  have e2 := HL.out.2.1
  exact ⟨i + 1, la, lc, ZAm, Z8, by rw [e, ← e2], by rw [e, ← e2]; exact HO3.out, HKR.out.trans HK2.out⟩
 case measure => simp only [intOf]; omega) : p := h
open Go.RowKit Go.Shelf
namespace Fq
open Mem Gr Gs Fi
open Gx (insB Rise)
def uf (x : Nat) : List Value := [.int .u32 (x : Int)]
theorem uf_flat (V : List Nat) : V.flatMap uf = u32v V := by
 induction V with
 | nil => rfl
 | cons a V ih => rw [List.flatMap_cons, ih]; rfl
theorem uInfo : (Tryz.prog.info? 35).map (fun i => (i.zero, i.size, i.bytes)) = some (some (.int .u32 0), 1, 4) := by kernel_rfl
theorem elU : ElT Tryz.prog 45 35 uf 1 := by
 obtain ⟨i0, hi0, hz0, hz1, hz2⟩ := info_parts uInfo
 exact ⟨Tryz.underlying45, ⟨i0, _, hi0, hz0, hz1, Z8, rfl⟩, ZAH, fun _ => rfl, fun x u hu => by simp [uf] at hu; subst hu; rfl⟩
def wl (f : Nat × Bx → Bool) (L : List (Nat × Bx)) : List Nat := (L.filter f).map (·.1)
theorem wl_le (f : Nat × Bx → Bool) (L : List (Nat × Bx)) : (wl f L).length ≤ L.length := by unfold wl; rw [List.length_map]; exact List.length_filter_le _ _
theorem wl_at {f : Nat × Bx → Bool} {L : List (Nat × Bx)} {i : Nat} {p : Nat × Bx} (hp : L[i]? = some p) : wl f (L.take (i + 1)) = if f p = true then wl f (L.take i) ++ [p.1] else wl f (L.take i) := by
 rw [take_at hp]
 unfold wl
 rw [List.filter_append, List.map_append]
 cases h : f p <;> simp [h]
theorem wl_take (f : Nat × Bx → Bool) (L : List (Nat × Bx)) (i : Nat) : (wl f (L.take i)).length ≤ i := Nat.le_trans (wl_le f _) (List.length_take_le _ _)
def WantL (w w' : World) (V : List Nat) (e : Ending) : Prop := ∃ oa oc, e = .returned (.slice oa V.length oc) ∧ Keeps (fun _ => False) w w' ∧ w'.ownsRow w.heap.size 35 1 (.slice oa V.length oc) V.length (u32v V)
theorem at_D (w : World) (R : Nat) (a : Option Addr) (cp : Nat) (L : List (Nat × Bx)) (h : RF w R a cp L) (hl : L.length ≤ 100000) (px py : Int) :
 Calls Tryz.prog 8 #[.pointer (some ⟨R, 0, none⟩), .agg #[.int .i32 px, .int .i32 py]] w fun e w' => WantL w w' (wl (fun p => decide (coversP px py p.2)) L) e := by
 obtain ⟨f, hf⟩ : ∃ f : Nat × Bx → Bool, f = fun p => decide (coversP px py p.2) := ⟨_, rfl⟩
 rw [← hf]
 obtain ⟨n, hn⟩ := ZE L.length
 rw [← hn] at hl
 have hnI : (n : Int) ≤ 100000 := by omega
 have HN := Lib.hid hn
 have H := Lib.hid h
 have HF := Lib.hid hf
 clear hn h hl hf
 go_enter Tryz.func8, Tryz.ntmps8
 go_wp2
 obtain ⟨W2, hW2⟩ := ZE (w.alloc (.cells #[.int .i32 px, .int .i32 py] 37))
 obtain ⟨B3, hB3⟩ := ZE w.heap.size
 have HKW := Lib.hid (show Keeps (fun _ => False) w W2 from by rw [hW2]; exact Z4)
 have HB3 := Lib.hid (show Blk W2 B3 37 [.int .i32 px, .int .i32 py] from by rw [hW2, hB3]; exact Blk.new w 37 [.int .i32 px, .int .i32 py])
 rw [← hW2, ← hB3]
 clear hW2 hB3
 go_loopw [5, 6] (fun v q wr => ∃ (i : Nat) (la : Option Addr) (lc : Nat), q = .int .i64 (i : Int) ∧ i ≤ n ∧ v = .slice la (wl f (L.take i)).length lc ∧ wr.ownsRow W2.heap.size 35 1 (.slice la (wl f (L.take i)).length lc) (wl f (L.take i)).length ((wl f (L.take i)).flatMap uf) ∧ Keeps (fun _ => False) W2 wr) (fun _ q _ => n - (intOf q).toNat)
 case atStart => exact ⟨0, none, 0, rfl, Nat.zero_le _, rfl, World.ownsRow_nil _ _ _ _, Keeps.refl _ _⟩
 case round =>
  obtain ⟨i, la, lc, rfl, hi, rfl, hO, hK⟩ := hrel
  have hli : (wl f (L.take i)).length ≤ 100000 := by
   have := wl_take f L i
   omega
  obtain ⟨l, hle⟩ := ZE (wl f (L.take i))
  rw [← hle] at hO hli ⊢
  obtain ⟨m, hm⟩ := ZE l.length
  rw [← hm] at hO hli ⊢
  have bR := (H.out.kd (HKW.out.trans hK)).blk
  rw [← HN.out] at bR
  have cR := bR.cell
  have HOw := Lib.hid hO
  have HKR := Lib.hid hK
  have HL := Lib.hid (And.intro hle (And.intro hm hli))
  clear hO hle hm hli
  by_cases hlt : i < n
  ·obtain ⟨p, hp⟩ : ∃ p, L[i]? = some p := ⟨_, List.getElem?_eq_getElem ZAs⟩
   have hRF := H.out.kd (HKW.out.trans hK)
   obtain ⟨g, rfl, -⟩ := hRF.row hp
   have hltI : (i : Int) < (n : Int) := by omega
   obtain ⟨cv, hcv⟩ := ZE (f p)
   have zh := fun W => (Bg.has_t p.2 px py W).mono (R' := fun e w' => e = .returned (.bool cv) ∧ Keeps (fun _ => False) W w') (by rintro e w' ⟨rfl, rfl⟩; exact ⟨by rw [hcv, HF.out], Z4⟩)
   have HZ := Lib.hid zh
   have hb3 := HB3.out.keeps hK (fun h => h)
   have HSR := Lib.hid (show ∀ W', Keeps (fun _ => False) wr W' → (∀ k : Nat, W'.cell? ⟨B3, k, none⟩ = ([.int .i32 px, .int .i32 py] : List Value)[k]?) ∧ (∀ k : Nat, W'.cell? ⟨R, k, none⟩ = ([.slice (some ⟨g, 0, none⟩) n cp] : List Value)[k]?) ∧ (W'.cell? ⟨g, i * 5, none⟩ = some (.int .u32 (p.1 : Int)) ∧ W'.cell? ⟨g, i * 5 + 1, none⟩ = some (.int .i32 p.2.x0) ∧ W'.cell? ⟨g, i * 5 + 2, none⟩ = some (.int .i32 p.2.y0) ∧ W'.cell? ⟨g, i * 5 + 3, none⟩ = some (.int .i32 p.2.x1) ∧ W'.cell? ⟨g, i * 5 + 4, none⟩ = some (.int .i32 p.2.y1)) from fun W' hk => ⟨(hb3.keeps hk (fun h => h)).cell, (bR.keeps hk (fun h => h)).cell, ((hRF.kd hk).five hp)⟩)
   have HP := Lib.hid hp
   have HA := Lib.hid (show wl f (L.take (i + 1)) = if cv = true then l ++ [p.1] else l from by rw [wl_at hp, ← HL.out.1, hcv])
   clear hp hK zh hcv hb3 bR hRF
   go_wp2
   rename_i Kx hKx
   go_region_held3 (fun W => (∀ k : Nat, W.cell? ⟨B3, k, none⟩ = ([.int .i32 px, .int .i32 py] : List Value)[k]?) ∧ (∀ k : Nat, W.cell? ⟨R, k, none⟩ = ([.slice (some ⟨g, 0, none⟩) n cp] : List Value)[k]?) ∧ (W.cell? ⟨g, i * 5, none⟩ = some (.int .u32 (p.1 : Int)) ∧ W.cell? ⟨g, i * 5 + 1, none⟩ = some (.int .i32 p.2.x0) ∧ W.cell? ⟨g, i * 5 + 2, none⟩ = some (.int .i32 p.2.y0) ∧ W.cell? ⟨g, i * 5 + 3, none⟩ = some (.int .i32 p.2.x1) ∧ W.cell? ⟨g, i * 5 + 4, none⟩ = some (.int .i32 p.2.y1))) (first | with_reducible assumption | exact HSR.out _ ZAb) (first | (go_at_call 20; (with_reducible refine (HZ.out _).mono ?_); rintro e w2 ⟨rfl, hk2⟩; have HK2 := Lib.hid (Keeps.trans (show Keeps (fun _ => False) wr _ from Z4) hk2); clear hk2))
   (refine hKx _ _ ?_; clear hKx; have bR3 := (H.out.kd (HKW.out.trans (HKR.out.trans HK2.out))).blk; rw [← HN.out] at bR3; clear cR; have cR := bR3.cell; obtain ⟨c0, c1, c2, c3, c4⟩ := (H.out.kd (HKW.out.trans (HKR.out.trans HK2.out))).five HP.out; have hO3 := owns_keeps HOw.out HK2.out (fun _ _ h => h); have HO3 := Lib.hid hO3; clear hO3 bR3)
   cases cv with
   | true =>
    go_wp2_with (at_builtin; refine app_f elU rfl (.tmp 26) (.tmp 35) rfl W2.heap.size l _ la lc rfl (HO3.out.alloc _) p.1 w2.heap.size rfl (by exact Mem.news_new w2 _ [_]) (Nat.le_trans HL.out.2.2 ZAH) (((HKR.out.trans HK2.out).alloc _).size) ?_; intro g' cap' w5 hown hgrow; have HG := Lib.hid (And.intro hown hgrow); clear hown hgrow)
    exact Zq
   | false =>
    exact Z0
  ·obtain rfl : i = n := by omega
   exact Zy
theorem first_t (base : Nat) (oa : Option Addr) (oc : Nat) (V : List Nat) (st : Int) (w : World) (hO : w.ownsRow base 35 1 (.slice oa V.length oc) V.length (u32v V)) (hl : (V.length : Int) ≤ 1000000) :
 Calls Tryz.prog 24 #[.slice oa V.length oc, .int .i64 st] w fun e w' => w = w' ∧ ∃ u, e = .returned u ∧ Tree.U32s w u (Tree.cut st V) := by
 have hU := Tree.U32s.of_own hO
 obtain ⟨n, hn⟩ := ZE V.length
 rw [← hn] at hU hl hO ⊢
 by_cases h1 : 0 < st
 ·obtain ⟨k, rfl⟩ : ∃ k : Nat, st = (k : Int) := ⟨st.toNat, Z8⟩
  by_cases h2 : k < n
  ·obtain ⟨a', c', e0, hx⟩ := hU
   simp only [Value.slice.injEq] at e0
   obtain ⟨rfl, hn', rfl⟩ := e0
   rcases hO.2 with ⟨e1, _⟩ | ⟨g, cap, cur, e1, _, _, hcap, _⟩
   ·simp only [Value.slice.injEq] at e1; omega
   ·simp only [Value.slice.injEq] at e1
    obtain ⟨rfl, _, rfl⟩ := e1
    have h2I : (k : Int) < (n : Int) := by omega
    have hkc : k ≤ oc := by omega
    have hkcI : (k : Int) ≤ (oc : Int) := by omega
    have HX := Lib.hid (show Tree.U32s w (.slice (some ⟨g, 0, none⟩) k oc) (Tree.cut (k : Int) V) from by
     have hc : Tree.cut (k : Int) V = V.take k := by unfold Tree.cut; rw [if_pos Z8]; simp
     rw [hc]
     refine ⟨some ⟨g, 0, none⟩, oc, by rw [List.length_take, Nat.min_eq_left Z8], fun i x hi => ?_⟩
     have hik : i < k := by have := (List.getElem?_eq_some_iff.1 hi).1; simp at this; omega
     rw [List.getElem?_take, if_pos hik] at hi
     exact hx i x hi)
    clear hn hn' hO hx hcap
    go_enter Tryz.func24, Tryz.ntmps24
    go_wp2
    go_ret
    exact ⟨rfl, _, rfl, HX.out⟩
  ·have hc : Tree.cut (k : Int) V = V := by unfold Tree.cut; rw [if_pos Z8]; exact List.take_of_length_le ZAV
   have h2I : ¬ (k : Int) < (n : Int) := by omega
   have HX := Lib.hid (show Tree.U32s w (.slice oa n oc) (Tree.cut (k : Int) V) from by rw [hc]; exact hU)
   clear hn hO hU hc h2
   go_enter Tryz.func24, Tryz.ntmps24
   go_wp2
   go_ret
   exact ⟨rfl, _, rfl, HX.out⟩
 ·have hc : Tree.cut st V = V := by unfold Tree.cut; rw [if_neg Z8]
  have HX := Lib.hid (show Tree.U32s w (.slice oa n oc) (Tree.cut st V) from by rw [hc]; exact hU)
  clear hn hO hU hc
  go_enter Tryz.func24, Tryz.ntmps24
  go_wp2
  go_ret
  exact ⟨rfl, _, rfl, HX.out⟩
end Fq
open Go.RowKit Go.Shelf
namespace Fq
open Mem Gr Gs Fi
open Gx (insB Rise)
instance (px py qx qy : Int) : DecidablePred (tkC px py qx qy) := fun b => by unfold tkC; infer_instance
theorem ans_small {L : List (Nat × Bx)} {tk : Bx → Prop} {V : List Nat} (hL : OkL L) (h : Ans L tk V) : V.length ≤ 65536 := Nat.le_trans h.len hL.len
theorem ans_wl {L Lr : List (Nat × Bx)} {tk : Bx → Prop} (hr : Rise Lr) (hm : ∀ p, p ∈ L ↔ p ∈ Lr) (f : Nat × Bx → Bool) (hf : ∀ p ∈ Lr, (f p = true ↔ tk p.2)) : Ans L tk (wl f Lr) := by
 refine ⟨hr.filt f, fun id => ?_⟩
 unfold wl
 rw [List.mem_map]
 constructor
 ·rintro ⟨⟨i, b⟩, hp, rfl⟩
  obtain ⟨h1, h2⟩ := List.mem_filter.1 hp
  exact ⟨b, (hm _).2 h1, (hf _ h1).1 h2⟩
 ·rintro ⟨b, hb, ht⟩
  have h1 := (hm _).1 hb
  exact ⟨(id, b), List.mem_filter.2 ⟨h1, (hf _ h1).2 ht⟩, rfl⟩
theorem ok_put {L : List (Nat × Bx)} (h : OkL L) (id : Nat) (b : Bx) (hid : id < 4294967296) : OkL (putF L id b).2 := h.put hid b
theorem ok_del {L : List (Nat × Bx)} (h : OkL L) (id : Nat) : OkL (delF L id).2 := h.del id
theorem rel_len {L Lr : List (Nat × Bx)} (hL : OkL L) (hr : Rise Lr) (hm : ∀ p, p ∈ L ↔ p ∈ Lr) : L.length = Lr.length := by
 have h1 : L.Nodup := (List.Pairwise.of_map (·.1) (fun a b h e => h (by rw [e])) hL.keys)
 have h2 : Lr.Nodup := (List.Pairwise.of_map (·.1) (fun a b h e => h (by rw [e])) hr.nodup)
 exact Gx.len_eq h1 h2 hm
theorem hasB_rel {L Lr : List (Nat × Bx)} (hm : ∀ p, p ∈ L ↔ p ∈ Lr) (id : Nat) : hasB L id = true ↔ ∃ p ∈ Lr, p.1 = id := by
 rw [hasB_iff]
 constructor
 ·rintro ⟨b, hb⟩; exact ⟨_, (hm _).1 hb, rfl⟩
 ·rintro ⟨⟨i, b⟩, hb, rfl⟩; exact ⟨b, (hm _).2 hb⟩
theorem did_same {R : Nat} {a : Option Addr} {cp : Nat} {L : List (Nat × Bx)} {w w' : World} (h : RF w R a cp L) (hk : Keeps (fun _ => False) w w') : DidD R a cp L L w w' :=
 ⟨a, cp, h.kd hk, hk.mono (fun _ _ h => h.elim), fun _ hk => .inr hk⟩
theorem rput_t {w : World} {R : Nat} {a : Option Addr} {cp : Nat} {L Lr : List (Nat × Bx)} (h : RF w R a cp Lr) (hr : Rise Lr) (hm : ∀ p, p ∈ L ↔ p ∈ Lr) (hL : OkL L) (id : Nat) (b : Bx) :
 Calls Tryz.prog 22 #[.pointer (some ⟨R, 0, none⟩), .int .u32 (id : Int), .agg #[.int .i32 b.x0, .int .i32 b.y0, .int .i32 b.x1, .int .i32 b.y1]] w fun e w' => e = .returned (.int .i64 (putF L id b).1) ∧ ∃ Lr', Rise Lr' ∧ (∀ p, p ∈ (putF L id b).2 ↔ p ∈ Lr') ∧ DidD R a cp Lr Lr' w w' := by
 have hl := rel_len hL hr hm
 have hl2 := hL.len
 unfold putF
 by_cases hb : Right b
 ·rw [if_neg (not_not_intro hb)]
  obtain ⟨i, q, hA⟩ := at_ex Lr id
  cases q with
  | true =>
   obtain ⟨hy, -, -⟩ := yes_at hr hA
   rw [if_pos ((hasB_rel hm id).2 hy)]
   refine (put_140 w R a cp Lr h Z8 id i hA b hb).mono ?_
   rintro e w' ⟨rfl, hk⟩
   exact ⟨rfl, Lr, hr, hm, did_same h hk⟩
  | false =>
   obtain ⟨hno, hgt⟩ := no_at hr hA
   rw [if_neg (fun e => by obtain ⟨p, hp, e⟩ := (hasB_rel hm id).1 e; exact hno p hp e)]
   by_cases hf : 65536 ≤ L.length
   ·rw [if_pos hf]
    refine (put_5 w R a cp Lr h Z8 id i hA b hb Z8).mono ?_
    rintro e w' ⟨rfl, hk⟩
    exact ⟨rfl, Lr, hr, hm, did_same h hk⟩
   ·rw [if_neg hf]
    refine (put_ok w R a cp Lr h Z8 hr id i hA b hb).mono ?_
    rintro e w' ⟨rfl, hk⟩
    refine ⟨rfl, _, hr.ins hno, fun p => ?_, hk⟩
    rw [Gx.mem_insB, List.mem_append, hm p, List.mem_singleton]
 ·rw [if_pos hb]
  refine (put_142 w R b hb id).mono ?_
  rintro e w' ⟨rfl, hk⟩
  exact ⟨rfl, Lr, hr, hm, did_same h hk⟩
theorem rdel_t {w : World} {R : Nat} {a : Option Addr} {cp : Nat} {L Lr : List (Nat × Bx)} (h : RF w R a cp Lr) (hr : Rise Lr) (hm : ∀ p, p ∈ L ↔ p ∈ Lr) (hL : OkL L) (id : Nat) :
 Calls Tryz.prog 23 #[.pointer (some ⟨R, 0, none⟩), .int .u32 (id : Int)] w fun e w' => e = .returned (.int .i64 (delF L id).1) ∧ ∃ Lr', Rise Lr' ∧ (∀ p, p ∈ (delF L id).2 ↔ p ∈ Lr') ∧ DidD R a cp Lr Lr' w w' := by
 have hl := rel_len hL hr hm
 have hl2 := hL.len
 unfold delF
 obtain ⟨i, q, hA⟩ := at_ex Lr id
 cases q with
 | true =>
  obtain ⟨hy, -, -⟩ := yes_at hr hA
  rw [if_pos ((hasB_rel hm id).2 hy)]
  refine (del_ok w R a cp Lr h Z8 hr id i hA).mono ?_
  rintro e w' ⟨rfl, hk⟩
  refine ⟨rfl, _, hr.del, fun p => ?_, hk⟩
  rw [mem_delB, mem_delB, hm p]
 | false =>
  obtain ⟨hno, hgt⟩ := no_at hr hA
  rw [if_neg (fun e => by obtain ⟨p, hp, e⟩ := (hasB_rel hm id).1 e; exact hno p hp e)]
  refine (del_141 w R a cp Lr h Z8 id i hA).mono ?_
  rintro e w' ⟨rfl, hk⟩
  exact ⟨rfl, Lr, hr, hm, did_same h hk⟩
structure Pr (w : World) (v : Value) (F : Nat → Prop) (L : List (Nat × Bx)) (R : Nat) (Lr : List (Nat × Bx)) : Prop where
 fd : Fi.Fd w v F L
 ok : OkL L
 rf : ∃ a cp, RF w R a cp Lr ∧ ∀ k, F k → (Value.slice a Lr.length cp).ownBlock ≠ some k
 off : ¬ F R
 rise : Rise Lr
 mem : ∀ p, p ∈ L ↔ p ∈ Lr
def StepD (v : Value) (R : Nat) (F : Nat → Prop) (w w' : World) : Prop := ∃ L' F' Lr', Pr w' v F' L' R Lr' ∧ Keeps (fun k => F k ∨ k = R) w w' ∧ ∀ k, F' k → F k ∨ w.heap.size ≤ k
section
variable {w w' : World} {v : Value} {F : Nat → Prop} {L : List (Nat × Bx)} {R : Nat} {Lr : List (Nat × Bx)}
theorem Pr.len (h : Pr w v F L R Lr) : L.length = Lr.length := rel_len h.ok h.rise h.mem
theorem Pr.lt (h : Pr w v F L R Lr) : R < w.heap.size := by obtain ⟨a, cp, h1, _⟩ := h.rf; exact h1.blk.lt
theorem Pr.kd (h : Pr w v F L R Lr) (hk : Keeps (fun _ => False) w w') : Pr w' v F L R Lr := by
 obtain ⟨a, cp, h1, h2⟩ := h.rf
 exact ⟨h.fd.kd hk, h.ok, ⟨a, cp, h1.kd hk, h2⟩, h.off, h.rise, h.mem⟩
theorem Pr.still (h : Pr w v F L R Lr) (hk : Keeps (fun _ => False) w w') : StepD v R F w w' := ⟨L, F, Lr, h.kd hk, kf hk, fun _ h => .inl h⟩
theorem Pr.turn {w0 w1 w2 w3 : World} {ra : Option Addr} {rcp : Nat} {F' : Nat → Prop} {L' Lr' : List (Nat × Bx)} (h : Pr w v F L R Lr) (k0 : Keeps (fun _ => False) w w0) (hrf : RF w R ra rcp Lr) (hrd : ∀ k, F k → (Value.slice ra Lr.length rcp).ownBlock ≠ some k)
 (k1 : Keeps F w0 w1) (hfd : Fi.Fd w1 v F' L') (hF : ∀ k, F' k → F k ∨ w0.heap.size ≤ k) (hr1 : RF w1 R ra rcp Lr) (k2 : Keeps (fun _ => False) w1 w2) (hrise : Rise Lr') (hmem : ∀ p, p ∈ L' ↔ p ∈ Lr') (hdid : DidD R ra rcp Lr Lr' w2 w3) (hok : OkL L') :
 StepD v R F w w3 ∧ Keeps (fun k => F k ∨ k = R) w0 w3 := by
 obtain ⟨a', cp', g1, g2, g3⟩ := hdid
 have hi := hfd.inb
 have z0 := k0.size
 have z2 := k2.size
 have hR := h.lt
 have hFR : ¬ F' R := fun e => by
  rcases hF R e with e | e
  ·exact h.off e
  ·omega
 have hkk : Keeps (fun k => F k ∨ k = R) w0 w3 := ((k1.mono (fun _ _ h => Or.inl h)).then k2 (fun _ _ h => h.elim)).then g2 (fun _ _ e => .inr e)
 refine ⟨⟨L', F', Lr', ⟨(hfd.kd k2).keeps g2 (fun x hx e => hFR (e ▸ hx)), hok, ⟨a', cp', g1, fun k hk e => ?_⟩, hFR, hrise, hmem⟩, (kf k0).then hkk (fun _ _ h => h), fun k hk => (hF k hk).imp_right (fun h => Z8)⟩, hkk⟩
 have hk1 := hi k hk
 rcases g3 k e with g | g
 ·omega
 ·rcases hF k hk with hk' | hk'
  ·exact hrd k hk' g
  ·have := (hrf.own.lt k g).2; omega
end
/-! what is told, and compared -/
theorem told_st {w : World} {base VB : Nat} {V : List Nat} (hV : Vals base w VB V) (hl : V.length ≤ 65536) (st : Int) : Calls Tryz.prog 12 #[.func (.func 92) #[] #[.pointer (some ⟨VB, 0, none⟩)], .int .i64 st] w fun e w' => ∃ v, e = .returned v ∧ Tree.U32s w' v (Tree.cut st V) ∧ Keeps (fun _ => False) w w' := by
 obtain ⟨_, a, cp, hb, ho⟩ := hV
 refine Calls.mono (Tree.told_any 92 _ st V w (fun S => ∀ k, S k → ¬ Tree.rowOf (.slice a V.length cp) k) Z8 (enters_of Tryz.func92 ZAB rfl)
  (fun W1 k => Tree.values1_gives 8 VB (.slice a V.length cp) V W1 Z8 ZA1 (Tree.U32s.of_own (owns_keeps ho k (fun _ _ h => h)))) (fun S hS k hk hr => ?_)) ?_
 ·obtain ⟨a', n', c', e1, e2⟩ := hr
  simp only [Value.slice.injEq] at e1
  obtain ⟨rfl, _, _⟩ := e1
  have := (ho.lt k (by simp [Value.ownBlock, e2])).2
  have := hS k hk
  omega
 ·rintro e w' ⟨v, rfl, hr, hk⟩
  exact ⟨v, rfl, Tree.U32s.of_own hr, hk⟩
theorem told_0 {w : World} {base VB : Nat} {V : List Nat} (hV : Vals base w VB V) (hl : V.length ≤ 65536) : Calls Tryz.prog 12 #[.func (.func 92) #[] #[.pointer (some ⟨VB, 0, none⟩)], .int .i64 0] w fun e w' => ∃ v, e = .returned v ∧ Tree.U32s w' v V ∧ Keeps (fun _ => False) w w' := told_st hV hl 0
theorem first_k {w : World} {base : Nat} {oa : Option Addr} {oc : Nat} {V : List Nat} (hO : w.ownsRow base 35 1 (.slice oa V.length oc) V.length (u32v V)) (hl : V.length ≤ 65536) (st : Int) :
 Calls Tryz.prog 24 #[.slice oa V.length oc, .int .i64 st] w fun e w' => ∃ u, e = .returned u ∧ Tree.U32s w' u (Tree.cut st V) ∧ Keeps (fun _ => False) w w' := by
 refine (first_t base oa oc V st w hO Z8).mono ?_
 rintro e w' ⟨rfl, u, rfl, hu⟩
 exact ⟨u, rfl, hu, Keeps.refl _ _⟩
theorem u32s_row {w : World} {base : Nat} {oa : Option Addr} {oc : Nat} {V : List Nat} (hO : w.ownsRow base 35 1 (.slice oa V.length oc) V.length (u32v V)) : Tree.U32s w (.slice oa V.length oc) V := Tree.U32s.of_own hO
theorem cut_le {V : List Nat} {st : Int} (h : V.length ≤ 65536) : (Tree.cut st V).length ≤ 65536 := by
 unfold Tree.cut
 split
 ·exact Nat.le_trans (List.length_take_le' _ _) h
 ·exact h
theorem same_ok {W : World} {u1 u2 : Value} {A : List Nat} (h1 : Tree.U32s W u1 A) (h2 : Tree.U32s W u2 A) (hl : A.length ≤ 65536) : Calls Tryz.prog 11 #[u1, u2] W fun e w' => e = .returned (.bool true) ∧ Keeps (fun _ => False) W w' := by
 refine (Tree.same_t u1 u2 A A W h1 h2 Z8 Z8).mono ?_
 rintro e w' ⟨rfl, hk⟩
 exact ⟨ZA7, hk⟩
end Fq
end Go.Proofs.YtdbpfbokfmpgcaaGreat
