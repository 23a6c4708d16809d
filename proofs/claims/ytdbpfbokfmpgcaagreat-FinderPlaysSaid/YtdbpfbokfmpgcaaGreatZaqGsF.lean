/-
GsF: Line: what it hands out.
-/
import Derived.Test.YtdbpfbokfmpgcaaGreatZamGsD
import Derived.Test.YtdbpfbokfmpgcaaGreatZapGsE
set_option linter.unusedVariables false
set_option linter.unusedSimpArgs false
set_option maxHeartbeats 16000000
set_option maxRecDepth 100000
attribute [local go_sem] Go.Oper.semAt_some
namespace Go.Proofs.YtdbpfbokfmpgcaaGreat
open Go.RowKit Go.Shelf
namespace Gs
open Mem Gr
theorem frames88 {P : Act → Prop} (hP : ∀ u0 u1 u2 u3 u4 u5 u6 u7 u8 u9 u10 u11 u12 u13 u14 u15 u16 u17 u18 u19 u20 u21 u22 u23 u24 u25 u26 u27 u28 u29 u30 u31 u32 u33 u34 u35 u36 u37 u38 u39 u40 u41 u42 u43 u44 u45 u46 u47 u48 u49 u50 u51 u52 u53 u54 u55 u56 u57 u58 u59 u60 u61 u62 u63 u64 u65 u66 u67 u68 u69 u70 u71 u72 u73 u74 u75 u76 u77 u78 u79 u80 u81 u82 u83 u84 u85 u86 u87 : Value, P ⟨#[u0, u1, u2, u3, u4, u5, u6, u7, u8, u9, u10, u11, u12, u13, u14, u15, u16, u17, u18, u19, u20, u21, u22, u23, u24, u25, u26, u27, u28, u29, u30, u31, u32, u33, u34, u35, u36, u37, u38, u39, u40, u41, u42, u43, u44, u45, u46, u47, u48, u49, u50, u51, u52, u53, u54, u55, u56, u57, u58, u59, u60, u61, u62, u63, u64, u65, u66, u67, u68, u69, u70, u71, u72, u73, u74, u75, u76, u77, u78, u79, u80, u81, u82, u83, u84, u85, u86, u87], []⟩) : ∀ a : Act, a.tmps.size = 88 → a.defers = [] → P a := by
 rintro ⟨⟨t⟩, d⟩ h1 h2
 simp only [List.size_toArray] at h1 h2
 subst h2
 have h := unroll t 88 h1
 have e : (List.range 88).map (fun i => t.getD i undef) = [t.getD 0 undef, t.getD 1 undef, t.getD 2 undef, t.getD 3 undef, t.getD 4 undef, t.getD 5 undef, t.getD 6 undef, t.getD 7 undef, t.getD 8 undef, t.getD 9 undef, t.getD 10 undef, t.getD 11 undef, t.getD 12 undef, t.getD 13 undef, t.getD 14 undef, t.getD 15 undef, t.getD 16 undef, t.getD 17 undef, t.getD 18 undef, t.getD 19 undef, t.getD 20 undef, t.getD 21 undef, t.getD 22 undef, t.getD 23 undef, t.getD 24 undef, t.getD 25 undef, t.getD 26 undef, t.getD 27 undef, t.getD 28 undef, t.getD 29 undef, t.getD 30 undef, t.getD 31 undef, t.getD 32 undef, t.getD 33 undef, t.getD 34 undef, t.getD 35 undef, t.getD 36 undef, t.getD 37 undef, t.getD 38 undef, t.getD 39 undef, t.getD 40 undef, t.getD 41 undef, t.getD 42 undef, t.getD 43 undef, t.getD 44 undef, t.getD 45 undef, t.getD 46 undef, t.getD 47 undef, t.getD 48 undef, t.getD 49 undef, t.getD 50 undef, t.getD 51 undef, t.getD 52 undef, t.getD 53 undef, t.getD 54 undef, t.getD 55 undef, t.getD 56 undef, t.getD 57 undef, t.getD 58 undef, t.getD 59 undef, t.getD 60 undef, t.getD 61 undef, t.getD 62 undef, t.getD 63 undef, t.getD 64 undef, t.getD 65 undef, t.getD 66 undef, t.getD 67 undef, t.getD 68 undef, t.getD 69 undef, t.getD 70 undef, t.getD 71 undef, t.getD 72 undef, t.getD 73 undef, t.getD 74 undef, t.getD 75 undef, t.getD 76 undef, t.getD 77 undef, t.getD 78 undef, t.getD 79 undef, t.getD 80 undef, t.getD 81 undef, t.getD 82 undef, t.getD 83 undef, t.getD 84 undef, t.getD 85 undef, t.getD 86 undef, t.getD 87 undef] := rfl
 exact Eq.mpr (congrArg (fun l : List Value => P ⟨⟨l⟩, []⟩) (h.trans e)) (hP (t.getD 0 undef) (t.getD 1 undef) (t.getD 2 undef) (t.getD 3 undef) (t.getD 4 undef) (t.getD 5 undef) (t.getD 6 undef) (t.getD 7 undef) (t.getD 8 undef) (t.getD 9 undef) (t.getD 10 undef) (t.getD 11 undef) (t.getD 12 undef) (t.getD 13 undef) (t.getD 14 undef) (t.getD 15 undef) (t.getD 16 undef) (t.getD 17 undef) (t.getD 18 undef) (t.getD 19 undef) (t.getD 20 undef) (t.getD 21 undef) (t.getD 22 undef) (t.getD 23 undef) (t.getD 24 undef) (t.getD 25 undef) (t.getD 26 undef) (t.getD 27 undef) (t.getD 28 undef) (t.getD 29 undef) (t.getD 30 undef) (t.getD 31 undef) (t.getD 32 undef) (t.getD 33 undef) (t.getD 34 undef) (t.getD 35 undef) (t.getD 36 undef) (t.getD 37 undef) (t.getD 38 undef) (t.getD 39 undef) (t.getD 40 undef) (t.getD 41 undef) (t.getD 42 undef) (t.getD 43 undef) (t.getD 44 undef) (t.getD 45 undef) (t.getD 46 undef) (t.getD 47 undef) (t.getD 48 undef) (t.getD 49 undef) (t.getD 50 undef) (t.getD 51 undef) (t.getD 52 undef) (t.getD 53 undef) (t.getD 54 undef) (t.getD 55 undef) (t.getD 56 undef) (t.getD 57 undef) (t.getD 58 undef) (t.getD 59 undef) (t.getD 60 undef) (t.getD 61 undef) (t.getD 62 undef) (t.getD 63 undef) (t.getD 64 undef) (t.getD 65 undef) (t.getD 66 undef) (t.getD 67 undef) (t.getD 68 undef) (t.getD 69 undef) (t.getD 70 undef) (t.getD 71 undef) (t.getD 72 undef) (t.getD 73 undef) (t.getD 74 undef) (t.getD 75 undef) (t.getD 76 undef) (t.getD 77 undef) (t.getD 78 undef) (t.getD 79 undef) (t.getD 80 undef) (t.getD 81 undef) (t.getD 82 undef) (t.getD 83 undef) (t.getD 84 undef) (t.getD 85 undef) (t.getD 86 undef) (t.getD 87 undef))
def tailN : Code → Nat → Code
 | c, 0 => c
 | .seq _ b, n + 1 => tailN b n
 | c, _ => c
noncomputable def lineTail : Code := tailN (Tryz.f131.body.getD .skip) 2
def LEnd (J Jx : List Cl → (Nat → Prop) → World → Prop) (xs : List Cl) (S O : Nat → Prop) (W : World) (e : Ending) (W' : World) : Prop :=
 (∃ v, e = .returned v) ∧ ∃ S', Foot (fun k => S k ∨ O k) S' W W' ∧ Inb S' W' ∧ (J xs S' W' ∨ ∃ pre, pre <+: xs ∧ Jx pre S' W')
def colL (x y dx dy s c : Int) : List Cl := (upto (lowR x y dx dy s c) (highR x y dx dy s c)).map fun r => (c, r)
theorem colL_get {x y dx dy s c : Int} {j : Nat} (h : j < (colL x y dx dy s c).length) : (colL x y dx dy s c)[j] = (c, lowR x y dx dy s c + (j : Int)) := by simp [colL, upto]
theorem colL_len (x y dx dy s c : Int) : (colL x y dx dy s c).length = (highR x y dx dy s c - lowR x y dx dy s c + 1).toNat := by simp [colL, upto]
theorem line_rest (l SB PB QB : Nat) (J Jx : List Cl → (Nat → Prop) → World → Prop) (S O : Nat → Prop) (W0 : World) (x y dx dy s : Int) (h : Ln x y dx dy s) (hJ : Stab W0.heap.size J) (hJx : Stab W0.heap.size Jx)
 (hY : ∀ pre c rest S1 W1, lineR x y dx dy s = pre ++ c :: rest → J pre S1 W1 → Inb S1 W1 → YieldAt Fence.wide 8 Tryz.prog l #[.agg #[.int .i32 c.1, .int .i32 c.2]] W1 (RoundEnd J Jx (pre ++ [c]) S1 W1))
 (W : World) (hz : W0.heap.size ≤ W.heap.size) (hS : Blk W SB 2 [.int .i64 s]) (hP : Blk W PB 37 [.int .i32 x, .int .i32 y]) (hQ : Blk W QB 37 [.int .i32 (x + dx), .int .i32 (y + dy)])
 (h0 : J [] S W) (hin : Inb S W) (hf : Foot (fun k => S k ∨ O k) S W0 W) (a : Act) (hF : Fr a 88 [(0, .func (.yield l) #[] #[]), (1, .pointer (some ⟨SB, 0, none⟩)), (2, .pointer (some ⟨PB, 0, none⟩)), (3, .pointer (some ⟨QB, 0, none⟩))]) : lineTail.wpIn Fence.wide 9 Tryz.prog (bodyPost Tryz.prog Tryz.f131 (LEnd J Jx (lineR x y dx dy s) S O W0)) a W := by
 revert hF
 refine fun hF => frames88 (P := fun a => Fr a 88 [(0, .func (.yield l) #[] #[]), (1, .pointer (some ⟨SB, 0, none⟩)), (2, .pointer (some ⟨PB, 0, none⟩)), (3, .pointer (some ⟨QB, 0, none⟩))] → lineTail.wpIn Fence.wide 9 Tryz.prog (bodyPost Tryz.prog Tryz.f131 (LEnd J Jx (lineR x y dx dy s) S O W0)) a W) ?_ a hF.1 hF.2.1 hF
 intro u0 u1 u2 u3 u4 u5 u6 u7 u8 u9 u10 u11 u12 u13 u14 u15 u16 u17 u18 u19 u20 u21 u22 u23 u24 u25 u26 u27 u28 u29 u30 u31 u32 u33 u34 u35 u36 u37 u38 u39 u40 u41 u42 u43 u44 u45 u46 u47 u48 u49 u50 u51 u52 u53 u54 u55 u56 u57 u58 u59 u60 u61 u62 u63 u64 u65 u66 u67 u68 u69 u70 u71 u72 u73 u74 u75 u76 u77 u78 u79 u80 u81 u82 u83 u84 u85 u86 u87 hF
 obtain rfl : u0 = .func (.yield l) #[] #[] := hF.at_ 0 _ ZA7
 obtain rfl : u1 = .pointer (some ⟨SB, 0, none⟩) := hF.at_ 1 _ ZA7
 obtain rfl : u2 = .pointer (some ⟨PB, 0, none⟩) := hF.at_ 2 _ ZA7
 obtain rfl : u3 = .pointer (some ⟨QB, 0, none⟩) := hF.at_ 3 _ ZA7
 clear hF
 have cS := hS.cell 0
 have cP := hP.cell
 have cQ := hQ.cell
 simp only [List.getElem?_cons_zero] at cS
 have hp := h.p
 have hq := h.q
 have hs := h.s
 obtain ⟨p1, p2, p3, p4⟩ := hp
 obtain ⟨q1, q2, q3, q4⟩ := hq
 unfold B0 at p1 p2 p3 p4 q1 q2 q3 q4
 have v1 : IntKind.i64.wrap x = x := IntWalk.i64_in _ Z8
 have v2 : IntKind.i64.wrap y = y := IntWalk.i64_in _ Z8
 have v3 : IntKind.i64.wrap (x + dx) = x + dx := IntWalk.i64_in _ Z8
 have v4 : IntKind.i64.wrap (y + dy) = y + dy := IntWalk.i64_in _ Z8
 have v5 : x + dx - x = dx := by omega
 have v6 : y + dy - y = dy := by omega
 have v7 : IntKind.i64.wrap dx = dx := IntWalk.i64_in _ (by have := h.d; omega)
 have v8 : IntKind.i64.wrap dy = dy := IntWalk.i64_in _ Z8
 have HA := Lib.hid (And.intro h (And.intro hJ (And.intro hJx (And.intro hz (And.intro hS (And.intro hP (And.intro hQ (And.intro h0 (And.intro hin hf)))))))))
 have HY := Lib.hid hY
 clear hY hJ hJx hz hS hP hQ h0 hin hf p1 p2 p3 p4 q1 q2 q3 q4 h hs
 conv => arg 4; whnf
 gi_wp2
 rename_i Kx hKx
 obtain ⟨X5, hX5⟩ := ZE W.heap.size
 have b5 := Blk.new W 185 [.int .i64 x, .int .i64 y, .int .i64 dx, .int .i64 dy, .int .i64 s]
 rw [← hX5] at b5 ⊢
 obtain ⟨W1, hW1⟩ := ZE (W.alloc (.cells #[.int .i64 x, .int .i64 y, .int .i64 dx, .int .i64 dy, .int .i64 s] 185))
 have k1 : Keeps (fun _ => False) W W1 := by rw [hW1]; (repeat (first | exact Keeps.refl _ _ | refine Keeps.alloc ?_ _ | refine Keeps.drew ?_))
 rw [← hW1] at b5 ⊢
 have HX5 := Lib.hid hX5
 clear hW1 hX5
 have H5 := Lib.hid b5
 have HK1 := Lib.hid k1
 refine wpIn_mono (Q := Exit.then (fun a' W' => Fr a' 88 [(0, .func (.yield l) #[] #[]), (5, .pointer (some ⟨X5, 0, none⟩)), (6, .int .i32 (x / s)), (7, .int .i32 ((x + dx) / s))] ∧ Keeps (fun _ => False) W1 W') (fun _ _ _ => False)) ?region ?rest
 case region =>
  obtain ⟨h, hJ, hJx, hz, hS, hP, hQ, h0, hin, hf⟩ := HA.out
  have o1 := of_t x y s h.s h.p
  have o2 := of_t (x + dx) (y + dy) s h.s h.q
  have HS := Lib.hid (And.intro (hS.keeps k1 (fun h => h)) (And.intro (hP.keeps k1 (fun h => h)) (hQ.keeps k1 (fun h => h))))
  have hfl := fld
  clear h hJ hJx hz hS hP hQ h0 hin hf b5 k1 cS cP cQ hKx
  refine wpIn_wide.2 ?_
  go_region_held3 (fun W => (∀ i : Nat, W.cell? ⟨SB, i, none⟩ = ([.int .i64 s] : List Value)[i]?) ∧ (∀ i : Nat, W.cell? ⟨PB, i, none⟩ = ([.int .i32 x, .int .i32 y] : List Value)[i]?) ∧ (∀ i : Nat, W.cell? ⟨QB, i, none⟩ = ([.int .i32 (x + dx), .int .i32 (y + dy)] : List Value)[i]?)) (first | with_reducible assumption | exact ⟨(HS.out.1.keeps (S := fun _ => False) Z4 (fun h => h)).cell, (HS.out.2.1.keeps (S := fun _ => False) Z4 (fun h => h)).cell, (HS.out.2.2.keeps (S := fun _ => False) Z4 (fun h => h)).cell⟩) (first
   | (go_at_call 134; (first | (with_reducible refine (o1 _).mono ?_) | (with_reducible refine (o2 _).mono ?_)); rintro e w2 ⟨rfl, rfl⟩))
  all_goals
   refine ⟨⟨rfl, rfl, ?_⟩, Z4⟩
   intro p hp
   simp only [List.mem_cons, List.not_mem_nil, or_false] at hp
   rcases hp with rfl | rfl | rfl | rfl <;> rfl
 case rest =>
  intro e a W2 hpost
  cases e with
  | normal =>
   obtain ⟨hF, hk⟩ := hpost
   refine hKx a W2 ?_
   clear hKx
   obtain ⟨h, hJ, hJx, hz, hS, hP, hQ, h0, hin, hf⟩ := HA.out
   have kW : Keeps (fun _ => False) W W2 := HK1.out.trans hk
   have hB5 := H5.out.keeps hk (fun h => h)
   have hj0 : J [] S W2 := hJ [] S (fun _ => False) W W2 h0 hin kW (fun _ _ h => h) (fun _ h => h.elim)
   have hin2 := hin.mono kW.size
   have hf2 : Foot (fun k => S k ∨ O k) S W0 W2 := ⟨hf.1.then kW (fun _ _ h => h.elim), hf.2⟩
   have hn5 : ¬ S X5 := fun h => by have := hin X5 h; have := HX5.out; omega
   have u1 := quot_in h.s.1 h.p.1 h.p.2.1
   have u2 := quot_in h.s.1 h.q.1 h.q.2.1
   have hrt := rows_t x y dx dy s
   have hlh := fun c => low_high (c := c) h
   have hxt : x / s ≤ (x + dx) / s := ediv_mono h.s.1 (by have := h.d; omega)
   have hl5 := hB5.lt
   have hzz : W0.heap.size ≤ W2.heap.size := by have := kW.size; omega
   have hf3 := hf2
   obtain ⟨fx, hfx⟩ := ZE (x / s)
   obtain ⟨tx, htx⟩ := ZE ((x + dx) / s)
   have HL := Lib.hid (show lineR x y dx dy s = (upto fx tx).flatMap (colL x y dx dy s) from by rw [hfx, htx]; rfl)
   have HR := Lib.hid (show ∀ c, fx ≤ c → c ≤ tx → ∀ w, Calls Tryz.prog 135 #[.agg #[.int .i64 x, .int .i64 y, .int .i64 dx, .int .i64 dy, .int .i64 s], .int .i64 c] w (Gave (.tuple #[.int .i64 (lowR x y dx dy s c), .int .i64 (highR x y dx dy s c)]) w) from fun c h1 h2 w => hrt c h Z8 Z8 w)
   have HH := Lib.hid (show ∀ c, fx ≤ c → c ≤ tx → -1073741826 ≤ lowR x y dx dy s c ∧ lowR x y dx dy s c ≤ highR x y dx dy s c ∧ highR x y dx dy s c ≤ 1073741826 from fun c h1 h2 => hlh c Z8 Z8)
   rw [← hfx] at u1 hxt hF
   rw [← htx] at u2 hxt hF
   have HJ := Lib.hid (And.intro hJ hJx)
   clear hfx htx hrt hlh h hS hP hQ h0 hf hJ hJx HA H5 HK1 hk kW
   revert hF
   refine fun hF => frames88 (P := fun a => Fr a 88 [(0, .func (.yield l) #[] #[]), (5, .pointer (some ⟨X5, 0, none⟩)), (6, .int .i32 fx), (7, .int .i32 tx)] → Code.wpIn _ _ _ _ _ a W2) ?_ a hF.1 hF.2.1 hF
   intro u0 u1 u2 u3 u4 u5 u6 u7 u8 u9 u10 u11 u12 u13 u14 u15 u16 u17 u18 u19 u20 u21 u22 u23 u24 u25 u26 u27 u28 u29 u30 u31 u32 u33 u34 u35 u36 u37 u38 u39 u40 u41 u42 u43 u44 u45 u46 u47 u48 u49 u50 u51 u52 u53 u54 u55 u56 u57 u58 u59 u60 u61 u62 u63 u64 u65 u66 u67 u68 u69 u70 u71 u72 u73 u74 u75 u76 u77 u78 u79 u80 u81 u82 u83 u84 u85 u86 u87 hF
   obtain rfl : u0 = .func (.yield l) #[] #[] := hF.at_ 0 _ ZA7
   obtain rfl : u5 = .pointer (some ⟨X5, 0, none⟩) := hF.at_ 5 _ ZA7
   obtain rfl : u6 = .int .i32 fx := hF.at_ 6 _ ZA7
   obtain rfl : u7 = .int .i32 tx := hF.at_ 7 _ ZA7
   clear hF
   have HA := Lib.hid (And.intro hj0 (And.intro hin2 (And.intro hf2 (And.intro hn5 hB5))))
   have hlen : (upto fx tx).length = (tx - fx + 1).toNat := upto_len _ _
   have HLen := Lib.hid hlen
   clear hj0 hin2 hf2 hf3 hn5 hB5 hin hlen
   gi_wp2
   gi_loopw [8] (fun p wr => ∃ (i : Nat) (Sk : Nat → Prop), p = .int .i32 (fx + (i : Int)) ∧ fx + (i : Int) ≤ tx + 1 ∧ J (((upto fx tx).take i).flatMap (colL x y dx dy s)) Sk wr ∧ Inb Sk wr ∧ Foot S Sk W2 wr) (fun p _ => (tx + 1 - intOf p).toNat)
   case atStart => exact ⟨0, S, ZA7, Z8, by simpa using HA.out.1, HA.out.2.1, Foot.refl _ _⟩
   case round =>
    obtain ⟨i, Sk, rfl, hi, hj, hink, hf⟩ := hrel
    obtain ⟨c, hc⟩ := ZE (fx + (i : Int))
    rw [← hc] at hi ⊢
    have HC := Lib.hid hc
    by_cases hlt : c ≤ tx
    ·have c5 := ((HA.out.2.2.2.2).keeps hf.1 HA.out.2.2.2.1).cell
     have hrows := HR.out c Z8 hlt
     obtain ⟨lo, hlo⟩ := ZE (lowR x y dx dy s c)
     obtain ⟨hg, hhg⟩ := ZE (highR x y dx dy s c)
     have hb := HH.out c Z8 hlt
     rw [← hlo, ← hhg] at hrows hb
     have hcl : (colL x y dx dy s c).length = (hg - lo + 1).toNat := by rw [colL_len, ← hlo, ← hhg]
     have hcg : ∀ j (h : j < (colL x y dx dy s c).length), (colL x y dx dy s c)[j] = (c, lo + (j : Int)) := fun j h => by rw [colL_get h, ← hlo]
     have hil : i < (upto fx tx).length := by rw [HLen.out]; omega
     have hsp : upto fx tx = (upto fx tx).take i ++ c :: (upto fx tx).drop (i + 1) := by
      have e1 := List.drop_eq_getElem_cons hil
      rw [upto_get hil, ← hc] at e1
      rw [← e1, List.take_append_drop]
     have htk : (upto fx tx).take (i + 1) = (upto fx tx).take i ++ [c] := by
      have e1 := List.take_append_getElem hil
      rw [upto_get hil, ← hc] at e1
      exact e1.symm
     have hwc : IntKind.i32.wrap (c + 1) = c + 1 := IntWalk.i32_in _ Z8
     have hwc2 : IntKind.i64.wrap c = c := IntWalk.i64_in _ Z8
     have HB := Lib.hid (And.intro hj (And.intro hink (And.intro hf (And.intro hcl (And.intro hcg (And.intro hsp htk))))))
     obtain ⟨dn, hdn⟩ := ZE (((upto fx tx).take i).flatMap (colL x y dx dy s))
     have HD := Lib.hid hdn
     clear hj hink hf hcl hcg hsp htk hc hdn hil hlo hhg
     gi_wp2_with (refine ⟨trivial, ?_⟩; gi_at_call 135; refine (callsIn_wide.2 (hrows _)).mono ?_; rintro e w3 ⟨rfl, hk3⟩)
     obtain ⟨hj, hink, hf, _⟩ := HB.out
     have hj3 : J dn Sk w3 := by rw [HD.out]; exact HJ.out.1 _ Sk (fun _ => False) wr w3 hj hink hk3 (fun _ _ h => h) (fun _ h => h.elim)
     have hf3 : Foot S Sk W2 w3 := hf.trans (Foot.same (hk3.mono (fun _ _ h => h.elim)))
     have hink3 := hink.mono hk3.size
     clear hj hink hf hk3
     gi_loopw [11] (fun q wq => ∃ (j : Nat) (Sq : Nat → Prop), q = .int .i64 (lo + (j : Int)) ∧ lo + (j : Int) ≤ hg + 1 ∧ J (dn ++ (colL x y dx dy s c).take j) Sq wq ∧ Inb Sq wq ∧ Foot S Sq W2 wq) (fun q _ => (hg + 1 - intOf q).toNat)
     case atStart => exact ⟨0, Sk, ZA7, Z8, by simpa using hj3, hink3, hf3⟩
     case round =>
      obtain ⟨j, Sq, rfl, hjb, hj, hinq, hfq⟩ := hrel
      by_cases hle : lo + (j : Int) ≤ hg
      ·have hjl : j < (colL x y dx dy s c).length := by rw [HB.out.2.2.2.1]; omega
       have hg1 := HB.out.2.2.2.2.1 j hjl
       have hsplit : lineR x y dx dy s = (dn ++ (colL x y dx dy s c).take j) ++ (c, lo + (j : Int)) :: ((colL x y dx dy s c).drop (j + 1) ++ ((upto fx tx).drop (i + 1)).flatMap (colL x y dx dy s)) := by
        have e1 := List.drop_eq_getElem_cons hjl
        rw [hg1] at e1
        rw [HL.out]
        conv => lhs; rw [HB.out.2.2.2.2.2.1]
        rw [List.flatMap_append, List.flatMap_cons, ← HD.out]
        have e2 : colL x y dx dy s c = (colL x y dx dy s c).take j ++ (c, lo + (j : Int)) :: (colL x y dx dy s c).drop (j + 1) := by rw [← e1, List.take_append_drop]
        conv => lhs; rw [e2]
        simp
       have htk2 : (colL x y dx dy s c).take (j + 1) = (colL x y dx dy s c).take j ++ [(c, lo + (j : Int))] := by
        have e1 := List.take_append_getElem hjl
        rw [hg1] at e1; exact e1.symm
       obtain ⟨fn, tmps, assign, body, hy, hRd⟩ := HY.out _ (c, lo + (j : Int)) _ Sq wr hsplit hj hinq
       have hw1 : IntKind.i32.wrap (lo + (j : Int)) = lo + (j : Int) := IntWalk.i32_in _ Z8
       have hw2 : IntKind.i64.wrap (lo + (j : Int) + 1) = lo + (j : Int) + 1 := IntWalk.i64_in _ Z8
       have HT := Lib.hid (And.intro htk2 (And.intro hfq hsplit))
       clear htk2 hsplit hj hinq hfq hj3 hink3 hf3 hg1
       gi_wp2
       refine hRd.mono ?_
       rintro e W3 ⟨S3, hf3, hin3, (⟨rfl, hj3⟩ | ⟨rfl, hj3⟩)⟩
       ·gi_wp2
        go_roundw
        case rel => exact ⟨j + 1, S3, ZAV, Z8, by rw [HT.out.1, ← List.append_assoc]; exact hj3, hin3, HT.out.2.1.trans hf3⟩
        case measure => simp [intOf]; omega
       ·gi_wp2
        refine bodyPost_ret (results_none rfl _ _ _) rfl ?_
        exact ⟨⟨_, rfl⟩, S3, HA.out.2.2.1.trans (HT.out.2.1.trans hf3), hin3, .inr ⟨_, ⟨(colL x y dx dy s c).drop (j + 1) ++ ((upto fx tx).drop (i + 1)).flatMap (colL x y dx dy s), by rw [HT.out.2.2]; simp⟩, hj3⟩⟩
      ·have hfull : (colL x y dx dy s c).take j = colL x y dx dy s c := List.take_of_length_le (by rw [HB.out.2.2.2.1]; omega)
       rw [hfull] at hj
       have HT := Lib.hid (And.intro hj (And.intro hinq hfq))
       clear hj hinq hfq hj3 hink3 hf3 hfull
       gi_wp2
       go_roundw
       case rel => exact ⟨i + 1, Sq, by have := HC.out; simp; omega, by have := HC.out; omega, by rw [HB.out.2.2.2.2.2.2, List.flatMap_append, ← HD.out]; simpa using HT.out.1, HT.out.2.1, HT.out.2.2⟩
       case measure => simp [intOf]; omega
    ·have hfull : (upto fx tx).take i = upto fx tx := List.take_of_length_le (by rw [HLen.out]; omega)
     rw [hfull, ← HL.out] at hj
     have HT := Lib.hid (And.intro hj (And.intro hink hf))
     clear hj hink hf hc hfull
     gi_wp2
     go_end0
     exact ⟨⟨_, rfl⟩, Sk, HA.out.2.2.1.trans HT.out.2.2, HT.out.2.1, .inl HT.out.1⟩
  | ret => exact hpost.elim
  | exit id => exact hpost.elim
  | goto t => exact hpost.elim
  | panic ch => exact hpost.elim
  | outgrown => exact hpost.elim
def headN : Code → Nat → Code
 | .seq a _, 0 => a
 | .seq _ b, n + 1 => headN b n
 | c, _ => c
noncomputable def lineAll : Code := .seq (headN (Tryz.f131.body.getD .skip) 0) (.seq (headN (Tryz.f131.body.getD .skip) 1) lineTail)
theorem lineAll_eq : Tryz.f131.body = some lineAll := by kernel_rfl
theorem line_t (px py qx qy s : Int) (w : World) : Calls Tryz.prog 124 #[.agg #[.int .i32 px, .int .i32 py], .agg #[.int .i32 qx, .int .i32 qy], .int .i64 s] w fun e w' => e = .returned (.func (.func 131) #[] #[.pointer (some ⟨w.heap.size + 1 + 1, 0, none⟩), .pointer (some ⟨w.heap.size, 0, none⟩), .pointer (some ⟨w.heap.size + 1, 0, none⟩)]) ∧ ((w.alloc (.cells #[.int .i32 px, .int .i32 py] 37)).alloc (.cells #[.int .i32 qx, .int .i32 qy] 37)).alloc (.cells #[.int .i64 s] 2) = w' := by
 go_enter Tryz.func124, Tryz.ntmps124
 go_wp2
 go_ret
 exact ⟨rfl, rfl⟩
theorem line_gives (n SB PB QB : Nat) (px py qx qy s : Int) (hs : Size s) (hp : On px py) (hq : On qx qy) (W : World) (hS : Blk W SB 2 [.int .i64 s]) (hP : Blk W PB 37 [.int .i32 px, .int .i32 py]) (hQ : Blk W QB 37 [.int .i32 qx, .int .i32 qy]) (hne : PB ≠ QB) :
 GivesO Tryz.prog n 131 #[.pointer (some ⟨SB, 0, none⟩), .pointer (some ⟨PB, 0, none⟩), .pointer (some ⟨QB, 0, none⟩)] (fun c : Cl => #[.agg #[.int .i32 c.1, .int .i32 c.2]]) (lineL px py qx qy s) W (fun _ => True) (fun k => k = PB ∨ k = QB) := by
 refine GivesO.any (n := 9) ?_
 intro l J Jx S hA hJ hJx hin hO hY h0
 refine callsIn_of_wp Tryz.func131 lineAll_eq trivial ?_ rfl
 simp only [Tryz.ntmps131, List.size_toArray, List.length_cons, List.length_nil, Nat.reduceAdd, Nat.reduceSub, Array.replicate_succ, Array.replicate_zero, List.push_toArray, List.append_toArray, List.nil_append, List.cons_append]
 unfold lineAll
 conv => arg 4; arg 1; whnf
 conv => arg 4; arg 2; arg 1; whnf
 have z1 := size_t s
 have z2 := in_t px py
 have z3 := in_t qx qy
 simp only [hs, hp, hq, decide_true] at z1 z2 z3
 have cS := hS.cell 0
 have cP := hP.cell
 have cQ := hQ.cell
 have fP := hP.frozen
 have fQ := hQ.frozen
 simp only [List.getElem?_cons_zero] at cS
 have cS1 := fun o => (hS.alloc o).cell 0
 have cP1 := fun o => (hP.alloc o).cell
 have cQ1 := fun o => (hQ.alloc o).cell
 have cS2 := fun o1 o2 => ((hS.alloc o1).alloc o2).cell 0
 have cP2 := fun o1 o2 => ((hP.alloc o1).alloc o2).cell
 have cQ2 := fun o1 o2 => ((hQ.alloc o1).alloc o2).cell
 have fP2 := fun o1 o2 => ((hP.alloc o1).alloc o2).frozen
 have fQ2 := fun o1 o2 => ((hQ.alloc o1).alloc o2).frozen
 simp only [List.getElem?_cons_zero] at cS1 cS2
 have HA := Lib.hid (And.intro hJ (And.intro hJx (And.intro hin (And.intro hO (And.intro h0 (And.intro hS (And.intro hP (And.intro hQ (And.intro hp (And.intro hq hs))))))))))
 have HY := Lib.hid hY
 have k2 : Keeps (fun _ => False) W ((W.alloc (.cells #[.int .i32 px, .int .i32 py] 37)).alloc (.cells #[.int .i32 qx, .int .i32 qy] 37)) := by (repeat (first | exact Keeps.refl _ _ | refine Keeps.alloc ?_ _ | refine Keeps.drew ?_))
 have HK := Lib.hid k2
 clear hY hJ hJx hin hO h0 hS hP hQ hp hq hs k2
 by_cases hsw : px > qx
 ·gi_wp2_with (first
   | (refine ⟨trivial, ?_⟩; gi_at_call 132; refine (callsIn_wide.2 (z1 _)).mono ?_; rintro e w1 ⟨rfl, rfl⟩)
   | (refine ⟨trivial, ?_⟩; gi_at_call 133; (first | (with_reducible refine (callsIn_wide.2 (z2 _)).mono ?_) | (with_reducible refine (callsIn_wide.2 (z3 _)).mono ?_)); rintro e w1 ⟨rfl, rfl⟩))
  obtain ⟨hJ, hJx, hin, hO, h0, hS, hP, hQ, hp, hq, hs⟩ := HA.out
  have hk := HK.out
  have e1 : lineL px py qx qy s = lineR qx qy (px - qx) (py - qy) s := by unfold lineL; rw [if_pos hsw]
  have hS2 := hS.keeps hk (fun h => h)
  have hP2 := hP.keeps hk (fun h => h)
  have hQ2 := hQ.keeps hk (fun h => h)
  have htS : SB ≠ PB := hS.ne_ hP ZAH
  have htS2 : SB ≠ QB := hS.ne_ hQ ZAH
  have hP3 := (((hP2.set_ 0 (.int .i32 qx)).set_ 1 (.int .i32 qy)).far (p := ⟨QB, 0, none⟩) hne (.int .i32 px)).far (p := ⟨QB, 1, none⟩) hne (.int .i32 py)
  have hQ3 := (((hQ2.far (p := ⟨PB, 0, none⟩) (Ne.symm hne) (.int .i32 qx)).far (p := ⟨PB, 1, none⟩) (Ne.symm hne) (.int .i32 qy)).set_ 0 (.int .i32 px)).set_ 1 (.int .i32 py)
  have hS3 := (((hS2.far (p := ⟨PB, 0, none⟩) htS (.int .i32 qx)).far (p := ⟨PB, 1, none⟩) htS (.int .i32 qy)).far (p := ⟨QB, 0, none⟩) htS2 (.int .i32 px)).far (p := ⟨QB, 1, none⟩) htS2 (.int .i32 py)
  have k0 : Keeps (fun k => k = PB ∨ k = QB) ((W.alloc (.cells #[.int .i32 px, .int .i32 py] 37)).alloc (.cells #[.int .i32 qx, .int .i32 qy] 37)) (((((((W.alloc (.cells #[.int .i32 px, .int .i32 py] 37)).alloc (.cells #[.int .i32 qx, .int .i32 qy] 37)).setCell ⟨PB, 0, none⟩ (.int .i32 qx)).setCell ⟨PB, 1, none⟩ (.int .i32 qy)).setCell ⟨QB, 0, none⟩ (.int .i32 px)).setCell ⟨QB, 1, none⟩ (.int .i32 py))) :=
   ((((Keeps.refl _ _).setCell (p := ⟨PB, 0, none⟩) (fun _ => .inl rfl) _).setCell (p := ⟨PB, 1, none⟩) (fun _ => .inl rfl) _).setCell (p := ⟨QB, 0, none⟩) (fun _ => .inr rfl) _).setCell (p := ⟨QB, 1, none⟩) (fun _ => .inr rfl) _
  generalize ((((((W.alloc (.cells #[.int .i32 px, .int .i32 py] 37)).alloc (.cells #[.int .i32 qx, .int .i32 qy] 37)).setCell ⟨PB, 0, none⟩ (.int .i32 qx)).setCell ⟨PB, 1, none⟩ (.int .i32 qy)).setCell ⟨QB, 0, none⟩ (.int .i32 px)).setCell ⟨QB, 1, none⟩ (.int .i32 py)) = Wx at hP3 hQ3 hS3 k0 ⊢
  have hzx := k0.size
  have hj1 := hJ [] S (fun _ => False) W _ h0 hin hk (fun _ _ h => h) (fun _ h => h.elim)
  have hjx : J [] S Wx := hO _ Wx hj1 (hin.mono hk.size) k0
  have kx : Keeps (fun k => S k ∨ (k = PB ∨ k = QB)) W Wx := (hk.mono (fun _ _ h => h.elim)).then k0 (fun _ _ h => .inr h)
  refine wpIn_mono (line_rest l SB PB QB J Jx S (fun k => k = PB ∨ k = QB) W qx qy (px - qx) (py - qy) s ⟨hq, by rw [show qx + (px - qx) = px by omega, show qy + (py - qy) = py by omega]; exact hp, Z8, hs⟩ hJ hJx (fun pre c rest S1 W1 e => HY.out pre c rest S1 W1 (e1.trans e)) Wx kx.size hS3 (by simpa using hP3) ?_ hjx (hin.mono kx.size) ⟨kx, fun k h => .inl (.inl h)⟩ _ ⟨rfl, rfl, ZA7⟩) ?_
  ·rw [show qx + (px - qx) = px by omega, show qy + (py - qy) = py by omega]
   simpa using hQ3
  ·rw [← e1]; exact fun e a w h => h
 ·gi_wp2_with (first
   | (refine ⟨trivial, ?_⟩; gi_at_call 132; refine (callsIn_wide.2 (z1 _)).mono ?_; rintro e w1 ⟨rfl, rfl⟩)
   | (refine ⟨trivial, ?_⟩; gi_at_call 133; (first | (with_reducible refine (callsIn_wide.2 (z2 _)).mono ?_) | (with_reducible refine (callsIn_wide.2 (z3 _)).mono ?_)); rintro e w1 ⟨rfl, rfl⟩))
  obtain ⟨hJ, hJx, hin, hO, h0, hS, hP, hQ, hp, hq, hs⟩ := HA.out
  have hk := HK.out
  have e1 : lineL px py qx qy s = lineR px py (qx - px) (qy - py) s := by unfold lineL; rw [if_neg Z8]
  refine wpIn_mono (line_rest l SB PB QB J Jx S (fun k => k = PB ∨ k = QB) W px py (qx - px) (qy - py) s ⟨hp, by rw [show px + (qx - px) = qx by omega, show py + (qy - py) = qy by omega]; exact hq, Z8, hs⟩ hJ hJx (fun pre c rest S1 W1 e => HY.out pre c rest S1 W1 (e1.trans e)) _ hk.size (hS.keeps hk (fun h => h)) (hP.keeps hk (fun h => h)) ?_ (hJ [] S (fun _ => False) W _ h0 hin hk (fun _ _ h => h) (fun _ h => h.elim)) (hin.mono hk.size) ⟨hk.mono (fun _ _ h => h.elim), fun k h => .inl (.inl h)⟩ _ ⟨rfl, rfl, ZA7⟩) ?_
  ·rw [show px + (qx - px) = qx by omega, show py + (qy - py) = qy by omega]
   exact hQ.keeps hk (fun h => h)
  ·rw [← e1]; exact fun e a w h => h
end Gs
end Go.Proofs.YtdbpfbokfmpgcaaGreat
