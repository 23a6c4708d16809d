/-
GsC: Cover: what it hands out.
-/
import Derived.Test.YtdbpfbokfmpgcaaGreatZakGsGGsB
import Derived.Test.YtdbpfbokfmpgcaaGreatZaaMemIterTreeAHeldGrowIter
set_option linter.unusedVariables false
set_option linter.unusedSimpArgs false
set_option maxHeartbeats 16000000
set_option maxRecDepth 100000
attribute [local go_sem] Go.Oper.semAt_some
namespace Go.Proofs.YtdbpfbokfmpgcaaGreat
open Go.RowKit Go.Shelf
namespace Gs
open Mem Gr
theorem frames48 {P : Act → Prop} (hP : ∀ u0 u1 u2 u3 u4 u5 u6 u7 u8 u9 u10 u11 u12 u13 u14 u15 u16 u17 u18 u19 u20 u21 u22 u23 u24 u25 u26 u27 u28 u29 u30 u31 u32 u33 u34 u35 u36 u37 u38 u39 u40 u41 u42 u43 u44 u45 u46 u47 : Value, P ⟨#[u0, u1, u2, u3, u4, u5, u6, u7, u8, u9, u10, u11, u12, u13, u14, u15, u16, u17, u18, u19, u20, u21, u22, u23, u24, u25, u26, u27, u28, u29, u30, u31, u32, u33, u34, u35, u36, u37, u38, u39, u40, u41, u42, u43, u44, u45, u46, u47], []⟩) : ∀ a : Act, a.tmps.size = 48 → a.defers = [] → P a := by
 rintro ⟨⟨t⟩, d⟩ h1 h2
 simp only [List.size_toArray] at h1 h2
 subst h2
 have h := unroll t 48 h1
 have e : (List.range 48).map (fun i => t.getD i undef) = [t.getD 0 undef, t.getD 1 undef, t.getD 2 undef, t.getD 3 undef, t.getD 4 undef, t.getD 5 undef, t.getD 6 undef, t.getD 7 undef, t.getD 8 undef, t.getD 9 undef, t.getD 10 undef, t.getD 11 undef, t.getD 12 undef, t.getD 13 undef, t.getD 14 undef, t.getD 15 undef, t.getD 16 undef, t.getD 17 undef, t.getD 18 undef, t.getD 19 undef, t.getD 20 undef, t.getD 21 undef, t.getD 22 undef, t.getD 23 undef, t.getD 24 undef, t.getD 25 undef, t.getD 26 undef, t.getD 27 undef, t.getD 28 undef, t.getD 29 undef, t.getD 30 undef, t.getD 31 undef, t.getD 32 undef, t.getD 33 undef, t.getD 34 undef, t.getD 35 undef, t.getD 36 undef, t.getD 37 undef, t.getD 38 undef, t.getD 39 undef, t.getD 40 undef, t.getD 41 undef, t.getD 42 undef, t.getD 43 undef, t.getD 44 undef, t.getD 45 undef, t.getD 46 undef, t.getD 47 undef] := rfl
 exact Eq.mpr (congrArg (fun l : List Value => P ⟨⟨l⟩, []⟩) (h.trans e)) (hP (t.getD 0 undef) (t.getD 1 undef) (t.getD 2 undef) (t.getD 3 undef) (t.getD 4 undef) (t.getD 5 undef) (t.getD 6 undef) (t.getD 7 undef) (t.getD 8 undef) (t.getD 9 undef) (t.getD 10 undef) (t.getD 11 undef) (t.getD 12 undef) (t.getD 13 undef) (t.getD 14 undef) (t.getD 15 undef) (t.getD 16 undef) (t.getD 17 undef) (t.getD 18 undef) (t.getD 19 undef) (t.getD 20 undef) (t.getD 21 undef) (t.getD 22 undef) (t.getD 23 undef) (t.getD 24 undef) (t.getD 25 undef) (t.getD 26 undef) (t.getD 27 undef) (t.getD 28 undef) (t.getD 29 undef) (t.getD 30 undef) (t.getD 31 undef) (t.getD 32 undef) (t.getD 33 undef) (t.getD 34 undef) (t.getD 35 undef) (t.getD 36 undef) (t.getD 37 undef) (t.getD 38 undef) (t.getD 39 undef) (t.getD 40 undef) (t.getD 41 undef) (t.getD 42 undef) (t.getD 43 undef) (t.getD 44 undef) (t.getD 45 undef) (t.getD 46 undef) (t.getD 47 undef))
noncomputable def coverBody : Code := (rbods (Tryz.f138.body.getD .skip)).getD 0 .skip
noncomputable def coverBody2 : Code := (rbods (Tryz.f138.body.getD .skip)).getD 1 .skip
theorem foot_stab (S0 : Nat → Prop) (W0 : World) {S T : Nat → Prop} {W W' : World} {b : Nat} (h : Foot S0 S W0 W) (hk : Keeps T W W') (hb : W0.heap.size ≤ b) (ht : ∀ k, T k → b ≤ k) : Foot S0 S W0 W' :=
 ⟨h.1.then hk (fun i hi hT => absurd (ht i hT) Z8), h.2⟩
def rowsL (fx tx : Int) (ys : List Int) : List Cl := ys.flatMap fun y => (upto fx tx).map fun x => (x, y)
def CvI (J : List Cl → (Nat → Prop) → World → Prop) (S0 : Nat → Prop) (W0 : World) (cs : List Cl) (S : Nat → Prop) (W : World) : Prop := J cs S W ∧ Foot S0 S W0 W
theorem cvi_stab {J : List Cl → (Nat → Prop) → World → Prop} {S0 : Nat → Prop} {W0 : World} {b0 b : Nat} (hJ : Stab b0 J) (hb0 : b0 ≤ W0.heap.size) (hb : W0.heap.size ≤ b) {α : Type} (f : α → List Cl) : Stab b (fun s S W => CvI J S0 W0 (f s) S W) :=
 fun s S T W W' ⟨h1, h2⟩ hin hk hd ht => ⟨hJ _ S T W W' h1 hin hk hd (fun k h => by have := ht k h; omega), foot_stab S0 W0 h2 hk hb ht⟩
def CvX (Jx : List Cl → (Nat → Prop) → World → Prop) (S0 : Nat → Prop) (W0 : World) (xs : List Cl) (c : Code) (S : Nat → Prop) (W : World) : Prop := c = .ret ∧ Foot S0 S W0 W ∧ ∃ pre, pre <+: xs ∧ Jx pre S W
theorem cvx_stab {Jx : List Cl → (Nat → Prop) → World → Prop} {S0 : Nat → Prop} {W0 : World} {b0 b : Nat} (hJ : Stab b0 Jx) (hb0 : b0 ≤ W0.heap.size) (hb : W0.heap.size ≤ b) {α : Type} (xs : List Cl) (c : Code) : Stab b (fun (_ : α) S W => CvX Jx S0 W0 xs c S W) :=
 fun s S T W W' ⟨h0, h2, pre, h3, h4⟩ hin hk hd ht => ⟨h0, foot_stab S0 W0 h2 hk hb ht, pre, h3, hJ _ S T W W' h4 hin hk hd (fun k h => by have := ht k h; omega)⟩
def Bxd (K : (Nat → Prop) → World → Prop) (X : Nat) (y : Int) (S : Nat → Prop) (W : World) : Prop := ∃ S1, (∀ k, S k ↔ S1 k ∨ k = X) ∧ ¬ S1 X ∧ Inb S1 W ∧ K S1 W ∧ Blk W X 21 [.int .i32 y]
theorem bxd_stab {β : Type} {b : Nat} {K : β → (Nat → Prop) → World → Prop} (hK : Stab b K) (X : Nat) (y : Int) : Stab b (fun s S W => Bxd (K s) X y S W) := by
 intro s S T W W' ⟨S1, h1, h2, h3, h4, h5⟩ hin hk hd ht
 exact ⟨S1, h1, h2, h3.mono hk.size, hK s S1 T W W' h4 h3 hk (fun k h => hd k ((h1 k).2 (.inl h))) ht, h5.keeps hk (hd X ((h1 X).2 (.inr rfl)))⟩
theorem bxd_end {K' : (Nat → Prop) → World → Prop} {X : Nat} {y : Int} {S S1 S3 : Nat → Prop} {W W3 : World} (h1 : ∀ k, S k ↔ S1 k ∨ k = X) (h2 : ¬ S1 X) (h5 : Blk W X 21 [.int .i32 y]) (hf : Foot S1 S3 W W3) (hin : Inb S3 W3) (hK : K' S3 W3) :
 ∃ S', Foot S S' W W3 ∧ Inb S' W3 ∧ Bxd K' X y S' W3 := by
 have h6 : ¬ S3 X := fun h => (hf.2 X h).elim h2 (fun h => by have := h5.lt; omega)
 refine ⟨fun k => S3 k ∨ k = X, ⟨hf.1.mono (fun k _ h => (h1 k).2 (.inl h)), fun k h => ?_⟩, fun k h => ?_, S3, fun _ => Iff.rfl, h6, hin, hK, h5.keeps hf.1 h2⟩
 ·rcases h with h | h
  ·exact (hf.2 k h).imp (fun h => (h1 k).2 (.inl h)) id
  ·exact .inl ((h1 k).2 (.inr h))
 ·rcases h with h | h
  ·exact hin k h
  ·have := h5.lt; have := hf.1.size; omega
theorem roundIn_two {P : Program} {n m l l0 l1 : Nat} {f : FuncId} {tmps : Array Value} {assign body : Code} {w : World} {R : Ending → World → Prop} (h : RoundIn Fence.wide n P l f tmps assign body w R) : RoundIn ((Fence.wide.inRound l0).inRound l1) m P l f tmps assign body w R :=
 ⟨h.1, fun c cs _ => h.2 c cs (room_wide _)⟩
theorem cover_cell (l l0 l1 m : Nat) (J Jx : List Cl → (Nat → Prop) → World → Prop) (S0 : Nat → Prop) (W0 : World) (XS cs0 : List Cl) (B3 X : Nat) (y : Int) (hb3 : Blk W0 B3 183 [.func (.yield l) #[] #[]]) (h3 : ¬ S0 B3)
 (hY : (∀ pre x rest S1 W1, XS = pre ++ x :: rest → J pre S1 W1 → Inb S1 W1 → YieldAt Fence.wide 8 Tryz.prog l #[.agg #[.int .i32 x.1, .int .i32 x.2]] W1 (RoundEnd J Jx (pre ++ [x]) S1 W1))) (zs : List Int) (x : Int) (rest : List Cl) (hxs : XS = (cs0 ++ zs.map fun z => (z, y)) ++ (x, y) :: rest)
 (S : Nat → Prop) (W : World) (a : Act) (hF : Fr a 48 [(3, .pointer (some ⟨B3, 0, none⟩)), (6, .pointer (some ⟨X, 0, none⟩)), (7, .int .i32 x)]) (hM : Bxd (CvI J S0 W0 (cs0 ++ zs.map fun z => (z, y))) X y S W) : coverBody2.wpIn ((Fence.wide.inRound l0).inRound l1) m Tryz.prog (Mem.Left (fun zs S W => Bxd (CvI J S0 W0 (cs0 ++ zs.map fun z => (z, y))) X y S W) (fun c _ S W => Bxd (CvX Jx S0 W0 XS c) X y S W) (zs ++ [x]) S W) a W := by
 obtain ⟨S1, e1, e2, hin1, ⟨hj, hf⟩, hX⟩ := hM
 revert hF
 refine fun hF => frames48 (P := fun a => Fr a 48 [(3, .pointer (some ⟨B3, 0, none⟩)), (6, .pointer (some ⟨X, 0, none⟩)), (7, .int .i32 x)] → coverBody2.wpIn ((Fence.wide.inRound l0).inRound l1) m Tryz.prog (Mem.Left (fun zs S W => Bxd (CvI J S0 W0 (cs0 ++ zs.map fun z => (z, y))) X y S W) (fun c _ S W => Bxd (CvX Jx S0 W0 XS c) X y S W) (zs ++ [x]) S W) a W) ?_ a hF.1 hF.2.1 hF
 intro u0 u1 u2 u3 u4 u5 u6 u7 u8 u9 u10 u11 u12 u13 u14 u15 u16 u17 u18 u19 u20 u21 u22 u23 u24 u25 u26 u27 u28 u29 u30 u31 u32 u33 u34 u35 u36 u37 u38 u39 u40 u41 u42 u43 u44 u45 u46 u47 hF
 obtain rfl : u3 = .pointer (some ⟨B3, 0, none⟩) := hF.at_ 3 _ ZA7
 obtain rfl : u6 = .pointer (some ⟨X, 0, none⟩) := hF.at_ 6 _ ZA7
 obtain rfl : u7 = .int .i32 x := hF.at_ 7 _ ZA7
 clear hF
 have c3 := (hb3.keeps hf.1 h3).cell 0
 have cX := hX.cell 0
 simp only [List.getElem?_cons_zero] at c3 cX
 obtain ⟨fn, tmps, assign, body, hy, hR⟩ := hY _ (x, y) rest S1 W hxs hj hin1
 have HX := Lib.hid (And.intro e1 (And.intro e2 (And.intro hf hX)))
 have HS := Lib.hid hxs
 clear hY hb3 h3 hj hf hX hxs e1 e2 hin1
 conv => arg 4; whnf
 gi_wp2
 refine ⟨fun h => by simp [Fence.wide, Fence.inRound] at h, RoundIn.mono (roundIn_two hR) ?_⟩
 rintro e W3 ⟨S3, hf3, hin3, (⟨rfl, hj3⟩ | ⟨rfl, hj3⟩)⟩
 ·obtain ⟨e1, e2, hf, hX⟩ := HX.out
  gi_wp2
  refine bxd_end e1 e2 hX hf3 hin3 ?_
  refine ⟨?_, hf.trans hf3⟩
  simpa using hj3
 ·obtain ⟨e1, e2, hf, hX⟩ := HX.out
  gi_wp2
  exact bxd_end e1 e2 hX hf3 hin3 ⟨rfl, hf.trans hf3, _, ⟨rest, by rw [HS.out]; simp⟩, hj3⟩
theorem cover_row (l l0 : Nat) (J Jx : List Cl → (Nat → Prop) → World → Prop) (S0 : Nat → Prop) (W0 : World) (XS : List Cl) (B3 X4 X5 X b0 : Nat) (fx fy tx ty y : Int) (hb3 : Blk W0 B3 183 [.func (.yield l) #[] #[]]) (h3 : ¬ S0 B3)
 (hb4 : Blk W0 X4 181 [.int .i32 fx, .int .i32 fy]) (h4 : ¬ S0 X4) (hb5 : Blk W0 X5 181 [.int .i32 tx, .int .i32 ty]) (h5 : ¬ S0 X5) (hfx : -1073741824 ≤ fx) (htx : tx ≤ 1073741824)
 (hJ : Stab b0 J) (hJx : Stab b0 Jx) (hb0 : b0 ≤ W0.heap.size)
 (hY : (∀ pre x rest S1 W1, XS = pre ++ x :: rest → J pre S1 W1 → Inb S1 W1 → YieldAt Fence.wide 8 Tryz.prog l #[.agg #[.int .i32 x.1, .int .i32 x.2]] W1 (RoundEnd J Jx (pre ++ [x]) S1 W1))) (ys : List Int) (more : List Cl) (hxs : XS = rowsL fx tx ys ++ ((upto fx tx).map fun x => (x, y)) ++ more)
 (S : Nat → Prop) (W : World) (a : Act) (hF : Fr a 48 [(3, .pointer (some ⟨B3, 0, none⟩)), (4, .pointer (some ⟨X4, 0, none⟩)), (5, .pointer (some ⟨X5, 0, none⟩)), (6, .pointer (some ⟨X, 0, none⟩))]) (hM : Bxd (CvI J S0 W0 (rowsL fx tx ys)) X y S W) (hin : Inb S W) (hl : ∃ r, W.heap[l0]? = some (.loop r)) : coverBody.wpIn (Fence.wide.inRound l0) 7 Tryz.prog (Mem.Left (fun ys S W => CvI J S0 W0 (rowsL fx tx ys) S W) (fun c _ S W => CvX Jx S0 W0 XS c S W) (ys ++ [y]) S W) a W := by
 obtain ⟨S1, e1, e2, hin1, ⟨hj, hf⟩, hX⟩ := hM
 revert hF
 refine fun hF => frames48 (P := fun a => Fr a 48 [(3, .pointer (some ⟨B3, 0, none⟩)), (4, .pointer (some ⟨X4, 0, none⟩)), (5, .pointer (some ⟨X5, 0, none⟩)), (6, .pointer (some ⟨X, 0, none⟩))] → coverBody.wpIn (Fence.wide.inRound l0) 7 Tryz.prog (Mem.Left (fun ys S W => CvI J S0 W0 (rowsL fx tx ys) S W) (fun c _ S W => CvX Jx S0 W0 XS c S W) (ys ++ [y]) S W) a W) ?_ a hF.1 hF.2.1 hF
 intro u0 u1 u2 u3 u4 u5 u6 u7 u8 u9 u10 u11 u12 u13 u14 u15 u16 u17 u18 u19 u20 u21 u22 u23 u24 u25 u26 u27 u28 u29 u30 u31 u32 u33 u34 u35 u36 u37 u38 u39 u40 u41 u42 u43 u44 u45 u46 u47 hF
 obtain rfl : u3 = .pointer (some ⟨B3, 0, none⟩) := hF.at_ 3 _ ZA7
 obtain rfl : u4 = .pointer (some ⟨X4, 0, none⟩) := hF.at_ 4 _ ZA7
 obtain rfl : u5 = .pointer (some ⟨X5, 0, none⟩) := hF.at_ 5 _ ZA7
 obtain rfl : u6 = .pointer (some ⟨X, 0, none⟩) := hF.at_ 6 _ ZA7
 clear hF
 have c4 := (hb4.keeps hf.1 h4).cell
 have c5 := (hb5.keeps hf.1 h5).cell
 have HX := Lib.hid (And.intro e1 (And.intro e2 (And.intro hf (And.intro hX (And.intro hj (And.intro hin1 hin))))))
 have HS := Lib.hid hxs
 have HY := Lib.hid hY
 have HJ := Lib.hid (And.intro hJ hJx)
 have HB := Lib.hid (And.intro hb3 h3)
 have HL := Lib.hid hl
 clear hY hb3 h3 hj hf hX hxs e1 e2 hin1 hb4 hb5 h4 h5 hJ hJx hin hl
 conv => arg 4; whnf
 gi_wp2_with (refine ⟨trivial, ?_⟩; gi_at_call 139; refine ((callsIn_wide.2 (between_t _ _ _)).inRound l0).mono ?_; rintro e w1 ⟨rfl, rfl⟩)
 obtain ⟨e1, e2, hf, hX, hj, hin1, hin⟩ := HX.out
 obtain ⟨hJ, hJx⟩ := HJ.out
 have k2 : Keeps (fun _ => False) W ((W.alloc (.cells #[.int .i32 fx] 21)).alloc (.cells #[.int .i32 tx] 21)) := by (repeat (first | exact Keeps.refl _ _ | refine Keeps.alloc ?_ _ | refine Keeps.drew ?_))
 have q1 := (Blk.new W 21 [.int .i32 fx]).alloc (.cells #[.int .i32 tx] 21)
 have q2 := Blk.new (W.alloc (.cells #[.int .i32 fx] 21)) 21 [.int .i32 tx]
 simp only [World.size_alloc] at q1 q2
 obtain ⟨Wb, hWb⟩ := ZE ((W.alloc (.cells #[.int .i32 fx] 21)).alloc (.cells #[.int .i32 tx] 21))
 have hz : Wb.heap.size = W.heap.size + 1 + 1 := by rw [hWb]; simp
 rw [← hWb] at k2 q1 q2 ⊢
 clear hWb
 have hW0 : W0.heap.size ≤ W.heap.size := hf.1.size
 obtain ⟨r0, hr0⟩ := HL.out
 have hr1 : Wb.heap[l0]? = some (.loop r0) := (k2.block l0 (Array.getElem?_eq_some_iff.1 hr0).1 (fun h => h)).trans hr0
 have hI0 : Bxd (CvI J S0 W0 (rowsL fx tx ys)) X y S Wb := bxd_stab (b := W0.heap.size) (cvi_stab hJ hb0 (Nat.le_refl _) (fun _ : Unit => rowsL fx tx ys)) X y () S (fun _ => False) W Wb ⟨S1, e1, e2, hin1, ⟨hj, hf⟩, hX⟩ hin k2 (fun _ _ h => h) (fun _ h => h.elim)
 refine wpIn_rangeN hr1 (gf := 145) (lb := #[.pointer (some ⟨W.heap.size, 0, none⟩), .pointer (some ⟨W.heap.size + 1, 0, none⟩)]) (encs := fun x : Int => #[.int .i32 x]) (xs := upto fx tx) (A := fun S => ¬ S W.heap.size ∧ ¬ S (W.heap.size + 1)) rfl (enters_of Tryz.func145 ZAB rfl)
  (fun W1 hk => between1_gives _ _ _ fx tx W1 hfx htx (q1.keeps hk (fun h => h)) (q2.keeps hk (fun h => h))) (fun _ => rfl)
  (fun zs S W => Bxd (CvI J S0 W0 (rowsL fx tx ys ++ zs.map fun z => (z, y))) X y S W) (fun c _ S W => Bxd (CvX Jx S0 W0 XS c) X y S W)
  (bxd_stab (cvi_stab hJ hb0 Z8 _) X y) (fun c => bxd_stab (cvx_stab hJx hb0 Z8 XS c) X y)
  S (hin.mono k2.size) (by simpa using hI0) (fun S' hS' => ⟨fun h => by rcases hS' _ h with h | h; exact absurd (hin _ h) Z8; omega, fun h => by rcases hS' _ h with h | h; exact absurd (hin _ h) Z8; omega⟩)
  (fun s S W => Bxd (CvI J S0 W0 (rowsL fx tx ys ++ s.1.map fun z => (z, y))) X y S W ∧ Fr s.2.2 48 [(3, .pointer (some ⟨B3, 0, none⟩)), (6, .pointer (some ⟨X, 0, none⟩)), (7, .int .i32 s.2.1)])
  (fun s S T W W' h hin hk hd ht => ⟨bxd_stab (cvi_stab hJ hb0 Z8 (fun s : List Int × Int × Act => rowsL fx tx ys ++ s.1.map fun z => (z, y))) X y s S T W W' h.1 hin hk hd ht, h.2⟩) ?assign ?body ?done ?stop
 case assign =>
  intro l1 pre x rest S' W' hxs hI hin' hlt
  have HX2 := Lib.hid (And.intro hI hin')
  clear hI hin' hI0 hj hX q1 q2 c4 c5 hr0 hr1
  gi_wp2
  exact ⟨S', Foot.refl _ _, HX2.out.2, HX2.out.1, rfl, rfl, ZA7⟩
 case body =>
  rintro l1 pre x rest a1 S' W' hxs ⟨hI, hFr⟩ hin' hlt _
  exact cover_cell l l0 l1 _ J Jx S0 W0 XS (rowsL fx tx ys) B3 X y HB.out.1 HB.out.2 HY.out pre x ((rest.map fun z => (z, y)) ++ more) (by rw [HS.out, hxs]; simp) S' W' a1 hFr hI
 case done =>
  rintro S' W' hf' hin' ⟨S3, g1, g2, g3, ⟨g4, g5⟩, g6⟩
  have hft : Foot S S' W W' := (Foot.same (k2.mono (fun _ _ h => h.elim))).trans hf'
  clear hI0 hj hX q1 q2 c4 c5 hr0 hr1
  gi_wp2
  refine ⟨S3, ⟨hft.1, fun k h => hft.2 k ((g1 k).2 (.inl h))⟩, g3, ?_, g5⟩
  have : rowsL fx tx (ys ++ [y]) = rowsL fx tx ys ++ (upto fx tx).map fun z => (z, y) := by simp [rowsL]
  rw [this]; exact g4
 case stop =>
  rintro c pre S' W' hf' hin' hpre ⟨S3, g1, g2, g3, ⟨rfl, g5, g4⟩, g6⟩
  have hft : Foot S S' W W' := (Foot.same (k2.mono (fun _ _ h => h.elim))).trans hf'
  clear hI0 hj hX q1 q2 c4 c5 hr0 hr1
  gi_wp2
  exact ⟨S3, ⟨hft.1, fun k h => hft.2 k ((g1 k).2 (.inl h))⟩, g3, rfl, g5, g4⟩
end Gs
end Go.Proofs.YtdbpfbokfmpgcaaGreat
