/-
  RefR: TreeMeanwhile: the body of the walk.
-/
import Derived.Test.YtndghakagogmcaaRefM
namespace Go.Proofs.Ytndghakagogmcaa
open Go.RowKit Go.Shelf
set_option linter.unusedVariables false
set_option linter.unusedSimpArgs false
attribute [local go_sem] Oper.semAt_some
namespace Tree
open Mem BT
theorem frames102 {P : Act → Prop} (hP : ∀ u0 u1 u2 u3 u4 u5 u6 u7 u8 u9 u10 u11 u12 u13 u14 u15 u16 u17 u18 u19 u20 u21 u22 u23 u24 u25 u26 u27 u28 u29 u30 u31 u32 u33 u34 u35 u36 u37 u38 u39 u40 u41 u42 u43 u44 u45 u46 u47 u48 u49 u50 u51 u52 u53 u54 u55 u56 u57 u58 u59 u60 u61 u62 u63 u64 u65 u66 u67 u68 u69 u70 u71 u72 u73 u74 u75 u76 u77 u78 u79 u80 u81 u82 u83 u84 u85 u86 u87 u88 u89 u90 u91 u92 u93 u94 u95 u96 u97 u98 u99 u100 u101 : Value, P ⟨#[u0, u1, u2, u3, u4, u5, u6, u7, u8, u9, u10, u11, u12, u13, u14, u15, u16, u17, u18, u19, u20, u21, u22, u23, u24, u25, u26, u27, u28, u29, u30, u31, u32, u33, u34, u35, u36, u37, u38, u39, u40, u41, u42, u43, u44, u45, u46, u47, u48, u49, u50, u51, u52, u53, u54, u55, u56, u57, u58, u59, u60, u61, u62, u63, u64, u65, u66, u67, u68, u69, u70, u71, u72, u73, u74, u75, u76, u77, u78, u79, u80, u81, u82, u83, u84, u85, u86, u87, u88, u89, u90, u91, u92, u93, u94, u95, u96, u97, u98, u99, u100, u101], []⟩) : ∀ a : Act, a.tmps.size = 102 → a.defers = [] → P a := by
  rintro ⟨⟨t⟩, d⟩ h1 h2
  simp only [List.size_toArray] at h1 h2
  subst h2
  have h := unroll t 102 h1
  have e : (List.range 102).map (fun i => t.getD i undef) = [t.getD 0 undef, t.getD 1 undef, t.getD 2 undef, t.getD 3 undef, t.getD 4 undef, t.getD 5 undef, t.getD 6 undef, t.getD 7 undef, t.getD 8 undef, t.getD 9 undef, t.getD 10 undef, t.getD 11 undef, t.getD 12 undef, t.getD 13 undef, t.getD 14 undef, t.getD 15 undef, t.getD 16 undef, t.getD 17 undef, t.getD 18 undef, t.getD 19 undef, t.getD 20 undef, t.getD 21 undef, t.getD 22 undef, t.getD 23 undef, t.getD 24 undef, t.getD 25 undef, t.getD 26 undef, t.getD 27 undef, t.getD 28 undef, t.getD 29 undef, t.getD 30 undef, t.getD 31 undef, t.getD 32 undef, t.getD 33 undef, t.getD 34 undef, t.getD 35 undef, t.getD 36 undef, t.getD 37 undef, t.getD 38 undef, t.getD 39 undef, t.getD 40 undef, t.getD 41 undef, t.getD 42 undef, t.getD 43 undef, t.getD 44 undef, t.getD 45 undef, t.getD 46 undef, t.getD 47 undef, t.getD 48 undef, t.getD 49 undef, t.getD 50 undef, t.getD 51 undef, t.getD 52 undef, t.getD 53 undef, t.getD 54 undef, t.getD 55 undef, t.getD 56 undef, t.getD 57 undef, t.getD 58 undef, t.getD 59 undef, t.getD 60 undef, t.getD 61 undef, t.getD 62 undef, t.getD 63 undef, t.getD 64 undef, t.getD 65 undef, t.getD 66 undef, t.getD 67 undef, t.getD 68 undef, t.getD 69 undef, t.getD 70 undef, t.getD 71 undef, t.getD 72 undef, t.getD 73 undef, t.getD 74 undef, t.getD 75 undef, t.getD 76 undef, t.getD 77 undef, t.getD 78 undef, t.getD 79 undef, t.getD 80 undef, t.getD 81 undef, t.getD 82 undef, t.getD 83 undef, t.getD 84 undef, t.getD 85 undef, t.getD 86 undef, t.getD 87 undef, t.getD 88 undef, t.getD 89 undef, t.getD 90 undef, t.getD 91 undef, t.getD 92 undef, t.getD 93 undef, t.getD 94 undef, t.getD 95 undef, t.getD 96 undef, t.getD 97 undef, t.getD 98 undef, t.getD 99 undef, t.getD 100 undef, t.getD 101 undef] := rfl
  exact Eq.mpr (congrArg (fun l : List Value => P ⟨⟨l⟩, []⟩) (h.trans e)) (hP (t.getD 0 undef) (t.getD 1 undef) (t.getD 2 undef) (t.getD 3 undef) (t.getD 4 undef) (t.getD 5 undef) (t.getD 6 undef) (t.getD 7 undef) (t.getD 8 undef) (t.getD 9 undef) (t.getD 10 undef) (t.getD 11 undef) (t.getD 12 undef) (t.getD 13 undef) (t.getD 14 undef) (t.getD 15 undef) (t.getD 16 undef) (t.getD 17 undef) (t.getD 18 undef) (t.getD 19 undef) (t.getD 20 undef) (t.getD 21 undef) (t.getD 22 undef) (t.getD 23 undef) (t.getD 24 undef) (t.getD 25 undef) (t.getD 26 undef) (t.getD 27 undef) (t.getD 28 undef) (t.getD 29 undef) (t.getD 30 undef) (t.getD 31 undef) (t.getD 32 undef) (t.getD 33 undef) (t.getD 34 undef) (t.getD 35 undef) (t.getD 36 undef) (t.getD 37 undef) (t.getD 38 undef) (t.getD 39 undef) (t.getD 40 undef) (t.getD 41 undef) (t.getD 42 undef) (t.getD 43 undef) (t.getD 44 undef) (t.getD 45 undef) (t.getD 46 undef) (t.getD 47 undef) (t.getD 48 undef) (t.getD 49 undef) (t.getD 50 undef) (t.getD 51 undef) (t.getD 52 undef) (t.getD 53 undef) (t.getD 54 undef) (t.getD 55 undef) (t.getD 56 undef) (t.getD 57 undef) (t.getD 58 undef) (t.getD 59 undef) (t.getD 60 undef) (t.getD 61 undef) (t.getD 62 undef) (t.getD 63 undef) (t.getD 64 undef) (t.getD 65 undef) (t.getD 66 undef) (t.getD 67 undef) (t.getD 68 undef) (t.getD 69 undef) (t.getD 70 undef) (t.getD 71 undef) (t.getD 72 undef) (t.getD 73 undef) (t.getD 74 undef) (t.getD 75 undef) (t.getD 76 undef) (t.getD 77 undef) (t.getD 78 undef) (t.getD 79 undef) (t.getD 80 undef) (t.getD 81 undef) (t.getD 82 undef) (t.getD 83 undef) (t.getD 84 undef) (t.getD 85 undef) (t.getD 86 undef) (t.getD 87 undef) (t.getD 88 undef) (t.getD 89 undef) (t.getD 90 undef) (t.getD 91 undef) (t.getD 92 undef) (t.getD 93 undef) (t.getD 94 undef) (t.getD 95 undef) (t.getD 96 undef) (t.getD 97 undef) (t.getD 98 undef) (t.getD 99 undef) (t.getD 100 undef) (t.getD 101 undef))
def mwAfter (cut : Nat) (b : Bx) (L : List (Nat × Bx)) : List (Nat × Bx) := (putR (delR L cut).2 77777 b).2
def mwL (cut : Nat) (b : Bx) (L : List (Nat × Bx)) (pre : List Nat) : List (Nat × Bx) := if pre = [] then L else mwAfter cut b L
/-- between two rounds: the numbers got so far, and the two as they stand -/
def MwI (T R B13 cut : Nat) (b : Bx) (L : List (Nat × Bx)) (Wr : World) (Far2 : Nat → Prop) (pre : List Nat) (S : Nat → Prop) (W : World) : Prop :=
  ∃ a c S1 S2, Blk W B13 51 [.slice a pre.length c] ∧ W.ownsRow Wr.heap.size 32 1 (.slice a pre.length c) pre.length (u32s pre) ∧
    TrS W T S1 (mwL cut b L pre) ∧ RefS W R S2 (mwL cut b L pre) ∧
    (∀ k, S1 k → ¬ S2 k ∧ ¬ Far2 k ∧ k ≠ B13 ∧ (Value.slice a pre.length c).ownBlock ≠ some k) ∧ (∀ k, S2 k → ¬ Far2 k ∧ k ≠ B13 ∧ (Value.slice a pre.length c).ownBlock ≠ some k) ∧
    Keeps (fun k => ¬ Far2 k) Wr W ∧ (∀ k, S k ↔ (k = B13 ∨ (Value.slice a pre.length c).ownBlock = some k ∨ S1 k ∨ S2 k))
theorem MwI.stab (T R B13 cut : Nat) (b : Bx) (L : List (Nat × Bx)) (Wr : World) (Far2 : Nat → Prop) (hF2 : ∀ k, Far2 k → k < Wr.heap.size) (n : Nat) (hn : Wr.heap.size ≤ n) : Stab n (MwI T R B13 cut b L Wr Far2) := by
  intro pre S U W W' ⟨a, c, S1, S2, h1, h2, h3, h4, h5, h6, h7, h8⟩ hin hk hd ht
  exact ⟨a, c, S1, S2, h1.keeps hk (hd _ ((h8 _).2 (.inl rfl))), owns_keeps h2 hk (fun k hk' => hd _ ((h8 _).2 (.inr (.inl hk')))), h3.keeps hk (fun k hk' => hd _ ((h8 _).2 (.inr (.inr (.inl hk'))))), h4.keeps hk (fun k hk' => hd _ ((h8 _).2 (.inr (.inr (.inr hk'))))), h5, h6,
    h7.trans (hk.mono (fun k _ hu hf => by have := ht k hu; have := hF2 k hf; omega)), h8⟩
theorem row_grow {W w1 : World} {B13 base x c g cap : Nat} {pre : List Nat} {a : Option Addr} {o : Obj} (hO : W.ownsRow base 32 1 (.slice a pre.length c) pre.length (u32s pre))
    (h5 : Blk w1 B13 51 [.slice a pre.length c])
    (hown : w1.ownsRow base 32 1 (.slice (some ⟨g, 0, none⟩) (pre.length + 1) cap) (pre.length + 1) (u32s pre ++ [.int .u32 (x : Int)]))
    (hgrow : (W.alloc o).grownBy w1 (Value.slice a pre.length c).ownBlock)
    (hat : (Value.slice (some ⟨g, 0, none⟩) (pre.length + 1) cap).ownBlock = (Value.slice a pre.length c).ownBlock ∨ (Value.slice (some ⟨g, 0, none⟩) (pre.length + 1) cap).ownBlock = some (W.alloc o).heap.size) :
    Keeps (fun k => k = B13 ∨ (Value.slice a pre.length c).ownBlock = some k) W (w1.setCell ⟨B13, 0, none⟩ (.slice (some ⟨g, 0, none⟩) (pre.length + 1) cap)) ∧
    ((Value.slice a pre.length c).ownBlock = some g ∨ W.heap.size ≤ g) ∧ g ≠ B13 ∧ g < (w1.setCell ⟨B13, 0, none⟩ (.slice (some ⟨g, 0, none⟩) (pre.length + 1) cap)).heap.size ∧
    Blk (w1.setCell ⟨B13, 0, none⟩ (.slice (some ⟨g, 0, none⟩) (pre.length + 1) cap)) B13 51 [.slice (some ⟨g, 0, none⟩) (pre ++ [x]).length cap] ∧
    (w1.setCell ⟨B13, 0, none⟩ (.slice (some ⟨g, 0, none⟩) (pre.length + 1) cap)).ownsRow base 32 1 (.slice (some ⟨g, 0, none⟩) (pre ++ [x]).length cap) (pre ++ [x]).length (u32s (pre ++ [x])) := by
  have hn5 : some B13 ≠ (Value.slice (some ⟨g, 0, none⟩) (pre.length + 1) cap).ownBlock := own_ne hown h5 (by decide)
  have hk : Keeps (fun k => k = B13 ∨ (Value.slice a pre.length c).ownBlock = some k) W w1 := ((Keeps.refl _ W).alloc o).grown hgrow (fun k hk e => .inr e)
  have hgl : g < w1.heap.size := (hown.lt g rfl).2
  have e1 : (pre ++ [x]).length = pre.length + 1 := by simp
  have e2 : u32s (pre ++ [x]) = u32s pre ++ [.int .u32 (x : Int)] := by simp [u32s]
  refine ⟨hk.setCell (p := ⟨B13, 0, none⟩) (fun _ => .inl rfl) _, ?_, ?_, by simpa [World.setCell] using hgl, ?_, ?_⟩
  · rcases hat with h | h
    · exact .inl h.symm
    · simp [Value.ownBlock] at h; exact .inr (by omega)
  · simp [Value.ownBlock] at hn5; exact fun e => hn5 e.symm
  · rw [e1]; simpa using h5.set_ 0 (.slice (some ⟨g, 0, none⟩) (pre.length + 1) cap)
  · rw [e1, e2]; exact owns_setCell hown (p := ⟨B13, 0, none⟩) hn5.symm _
theorem _root_.Go.Proofs.Ytndghakagogmcaa.Mem.Blk.keeps_row {w w' Wr : World} {b : Nat} {t : TypeId} {cs : List Value} {own : Option Nat} {Far2 : Nat → Prop} (h : Blk w b t cs) (hg : w.grownBy w' own) (ho : ∀ k, own = some k → Wr.heap.size ≤ k) (hF : ∀ k, Far2 k → k < Wr.heap.size) (hf : Far2 b) : Blk w' b t cs :=
  h.grown hg (fun e => by have := ho b e.symm; have := hF b hf; omega)
theorem mw_put {Far : Nat → Prop} {V W : World} {T R : Nat} {L1 L2 : List (Nat × Bx)} (h : PairSt Far V W T R L1 L2) (b : Bx) (hid : El32 (77777, b)) : Calls Try.prog 20 #[.pointer (some ⟨T, 0, none⟩), .int .u32 77777, .agg #[.int .i32 b.x0, .int .i32 b.y0, .int .i32 b.x1, .int .i32 b.y1]] W (fun e W' => e = .returned (.int .i64 (putR L1 77777 b).1) ∧ PairSt Far V W' T R (putR L1 77777 b).2 L2) := ps_put h 77777 b hid
theorem mw_rput {Far : Nat → Prop} {V W : World} {T R : Nat} {L1 L2 : List (Nat × Bx)} (h : PairSt Far V W T R L1 L2) (b : Bx) (hid : El32 (77777, b)) : Calls Try.prog 21 #[.pointer (some ⟨R, 0, none⟩), .int .u32 77777, .agg #[.int .i32 b.x0, .int .i32 b.y0, .int .i32 b.x1, .int .i32 b.y1]] W (fun e W' => e = .returned (.int .i64 (putR L2 77777 b).1) ∧ PairSt Far V W' T R L1 (putR L2 77777 b).2) := ps_rput h 77777 b hid
theorem mw_pair {W W2 : World} {T R B13 : Nat} {S1 S2 : Nat → Prop} {L : List (Nat × Bx)} {own : Option Nat} {Far2 : Nat → Prop} (r1 : Keeps (fun k => k = B13 ∨ own = some k) W W2) (g3 : TrS W T S1 L) (g4 : RefS W R S2 L)
    (g5 : ∀ k, S1 k → ¬ S2 k ∧ ¬ Far2 k ∧ k ≠ B13 ∧ own ≠ some k) (g6 : ∀ k, S2 k → ¬ Far2 k ∧ k ≠ B13 ∧ own ≠ some k) : PairSt (fun k => k < W2.heap.size ∧ ¬ S1 k ∧ ¬ S2 k) W2 W2 T R L L :=
  ⟨Keeps.refl _ _, fun k h => h.1, S1, S2, g3.keeps r1 (fun k hk h => by rcases h with h | h; exact (g5 k hk).2.2.1 h; exact (g5 k hk).2.2.2 h), g4.keeps r1 (fun k hk h => by rcases h with h | h; exact (g6 k hk).2.1 h; exact (g6 k hk).2.2 h),
    fun k hk => ⟨(g5 k hk).1, fun h => h.2.1 hk⟩, fun k hk h => h.2.2 hk⟩
noncomputable def mwBody : Code := (rbods (Try.f9.body.getD .skip)).getD 0 .skip
set_option maxHeartbeats 8000000 in
set_option maxRecDepth 100000 in
theorem mw_body (l T R B13 Bb Bc B7 B8 cut : Nat) (b : Bx) (L : List (Nat × Bx)) (Wr : World) (Far2 : Nat → Prop) (hF2 : ∀ k, Far2 k → k < Wr.heap.size)
    (hb : Blk Wr Bb 47 [.int .i32 b.x0, .int .i32 b.y0, .int .i32 b.x1, .int .i32 b.y1]) (fb : Far2 Bb) (hc : Blk Wr Bc 32 [.int .u32 (cut : Int)]) (fc : Far2 Bc) (h7 : Blk Wr B7 48 [.pointer (some ⟨T, 0, none⟩)]) (f7 : Far2 B7) (h8 : Blk Wr B8 50 [.pointer (some ⟨R, 0, none⟩)]) (f8 : Far2 B8)
    (hB13 : Wr.heap.size ≤ B13) (hcut : cut < 4294967296) (hbx : El32 (77777, b)) (pre : List Nat) (x : Nat) (S : Nat → Prop) (W : World) (hI : MwI T R B13 cut b L Wr Far2 pre S W) (hin : Inb S W) (hlen : pre.length + 1 ≤ 1000000)
    (a : Act) (hF : Fr a 102 [(4, .pointer (some ⟨Bb, 0, none⟩)), (5, .pointer (some ⟨Bc, 0, none⟩)), (7, .pointer (some ⟨B7, 0, none⟩)), (8, .pointer (some ⟨B8, 0, none⟩)), (13, .pointer (some ⟨B13, 0, none⟩)), (14, .int .u32 (x : Int))]) : mwBody.wpIn (Fence.wide.inRound l) 7 Try.prog (Mem.Left (MwI T R B13 cut b L Wr Far2) (fun _ _ _ _ => False) (pre ++ [x]) S W) a W := by
  revert hF
  refine fun hF => frames102 (P := fun a => Fr a 102 [(4, .pointer (some ⟨Bb, 0, none⟩)), (5, .pointer (some ⟨Bc, 0, none⟩)), (7, .pointer (some ⟨B7, 0, none⟩)), (8, .pointer (some ⟨B8, 0, none⟩)), (13, .pointer (some ⟨B13, 0, none⟩)), (14, .int .u32 (x : Int))] → mwBody.wpIn (Fence.wide.inRound l) 7 Try.prog (Mem.Left (MwI T R B13 cut b L Wr Far2) (fun _ _ _ _ => False) (pre ++ [x]) S W) a W) ?_ a hF.1 hF.2.1 hF
  intro u0 u1 u2 u3 u4 u5 u6 u7 u8 u9 u10 u11 u12 u13 u14 u15 u16 u17 u18 u19 u20 u21 u22 u23 u24 u25 u26 u27 u28 u29 u30 u31 u32 u33 u34 u35 u36 u37 u38 u39 u40 u41 u42 u43 u44 u45 u46 u47 u48 u49 u50 u51 u52 u53 u54 u55 u56 u57 u58 u59 u60 u61 u62 u63 u64 u65 u66 u67 u68 u69 u70 u71 u72 u73 u74 u75 u76 u77 u78 u79 u80 u81 u82 u83 u84 u85 u86 u87 u88 u89 u90 u91 u92 u93 u94 u95 u96 u97 u98 u99 u100 u101 hF
  obtain rfl : u4 = .pointer (some ⟨Bb, 0, none⟩) := hF.at_ 4 _ (by simp)
  obtain rfl : u5 = .pointer (some ⟨Bc, 0, none⟩) := hF.at_ 5 _ (by simp)
  obtain rfl : u7 = .pointer (some ⟨B7, 0, none⟩) := hF.at_ 7 _ (by simp)
  obtain rfl : u8 = .pointer (some ⟨B8, 0, none⟩) := hF.at_ 8 _ (by simp)
  obtain rfl : u13 = .pointer (some ⟨B13, 0, none⟩) := hF.at_ 13 _ (by simp)
  obtain rfl : u14 = .int .u32 (x : Int) := hF.at_ 14 _ (by simp)
  clear hF
  obtain ⟨sa, sc, S1, S2, g1, g2, g3, g4, g5, g6, g7, g8⟩ := hI
  have c13 := g1.cell 0
  have f13 := g1.frozen 0
  simp only [List.getElem?_cons_zero] at c13
  obtain ⟨i0, hi0, hz0, hz1', hz2⟩ := info_parts u32Info
  have hlt : ∀ k, (Value.slice sa pre.length sc).ownBlock = some k → Wr.heap.size ≤ k := fun k hk => (g2.lt k hk).1
  have HG := Lib.hid (And.intro g1 (And.intro g2 (And.intro g3 (And.intro g4 (And.intro g5 (And.intro g6 (And.intro g7 g8)))))))
  have HC := Lib.hid (And.intro (hb.keeps g7 (fun h => h fb)) (And.intro (hc.keeps g7 (fun h => h fc)) (And.intro (h7.keeps g7 (fun h => h f7)) (h8.keeps g7 (fun h => h f8)))))
  have HO := Lib.hid hlt
  have HFF := Lib.hid (And.intro fb (And.intro fc (And.intro f7 f8)))
  have HF := Lib.hid hF2
  have HX := Lib.hid (And.intro hcut hbx)
  have HIN := Lib.hid hin
  have hn7 : B7 ≠ B13 := fun e => by have := hF2 _ f7; omega
  have hn8 : B8 ≠ B13 := fun e => by have := hF2 _ f8; omega
  have hnb : Bb ≠ B13 := fun e => by have := hF2 _ fb; omega
  have hnc : Bc ≠ B13 := fun e => by have := hF2 _ fc; omega
  have HN := Lib.hid (show (¬ (Bb = B13 ∨ (Value.slice sa pre.length sc).ownBlock = some Bb)) ∧ (¬ (Bc = B13 ∨ (Value.slice sa pre.length sc).ownBlock = some Bc)) ∧ (¬ (B7 = B13 ∨ (Value.slice sa pre.length sc).ownBlock = some B7)) ∧ (¬ (B8 = B13 ∨ (Value.slice sa pre.length sc).ownBlock = some B8)) from
    ⟨fun h => by rcases h with h | h; exact hnb h; have := hlt _ h; have := hF2 _ fb; omega, fun h => by rcases h with h | h; exact hnc h; have := hlt _ h; have := hF2 _ fc; omega, fun h => by rcases h with h | h; exact hn7 h; have := hlt _ h; have := hF2 _ f7; omega, fun h => by rcases h with h | h; exact hn8 h; have := hlt _ h; have := hF2 _ f8; omega⟩)
  have hm : ∀ k, Far2 k → ∀ n, W.heap.size ≤ n → k < n ∧ ¬ S1 k ∧ ¬ S2 k := fun k hk n hn => ⟨by have := hF2 k hk; have := g7.size; omega, fun h => (g5 k h).2.1 hk, fun h => (g6 k h).1 hk⟩
  have HM := Lib.hid (fun n (hn : W.heap.size ≤ n) => And.intro (hm Bb fb n hn) (And.intro (hm Bc fc n hn) (And.intro (hm B7 f7 n hn) (hm B8 f8 n hn))))
  clear g1 g2 g3 g4 g5 g6 g7 g8 hb fb hc fc h7 f7 h8 f8 hF2 hcut hbx hin hlt hm
  by_cases hp : pre = []
  · have hp1 : (pre.length : Int) + 1 = 1 := by rw [hp]; rfl
    have hLe : mwL cut b L pre = L := by rw [hp]; rfl
    rw [hLe] at HG
    have HP := Lib.hid hp
    clear hp hLe
    conv => arg 4; whnf
    gi_wp2_with (first
      | (gi_at_builtin; refine wpListIn_append_own_at _ rfl (.tmp 67) (.tmp 69) 51 rfl Wr.heap.size 32 i0 _ 1 4 Try.underlying51 hi0 hz0 hz1' hz2 rfl (by decide) (.slice sa pre.length sc) pre.length (u32s pre) rfl (HG.out.2.1.alloc _) ⟨W.heap.size, 0, none⟩ 1 1 [.int .u32 (x : Int)] rfl rfl (by exact Mem.news_new W _ [_]) (by simp [Value.oneCell']) (by unfold maxLen; omega) (by omega) (by have := HG.out.2.2.2.2.2.2.1.size; simp; omega) ?_; intro v' w1 hown hgrow _ hat; obtain ⟨g', cap', rfl⟩ := ownsRow_succ hown; have h51 := (HG.out.1.alloc (.cells #[.int .u32 (x : Int)] 32)).grown hgrow (own_ne HG.out.2.1 HG.out.1 (by decide)); have HR := Lib.hid (row_grow HG.out.2.1 h51 hown hgrow hat); have c51 := h51.cell 0; have f51 := h51.frozen 0; simp only [List.getElem?_cons_zero] at c51; have hown0 := hgrow; clear c13 f13 h51 hown hgrow hat; have c71 := ((HC.out.2.2.1.alloc (.cells #[.int .u32 (x : Int)] 32)).keeps_row hown0 HO.out HF.out HFF.out.2.2.1).cell 0; have cc1 := ((HC.out.2.1.alloc (.cells #[.int .u32 (x : Int)] 32)).keeps_row hown0 HO.out HF.out HFF.out.2.1).cell 0; simp only [List.getElem?_cons_zero] at c71 cc1; have HB := Lib.hid (And.intro (HC.out.1.keeps HR.out.1 (HN.out.1)) (And.intro (HC.out.2.1.keeps HR.out.1 (HN.out.2.1)) (And.intro (HC.out.2.2.1.keeps HR.out.1 (HN.out.2.2.1)) (HC.out.2.2.2.keeps HR.out.1 (HN.out.2.2.2))))); have HA := Lib.hid (mw_pair HR.out.1 HG.out.2.2.1 HG.out.2.2.2.1 HG.out.2.2.2.2.1 HG.out.2.2.2.2.2.1); have HF3 := Lib.hid (HM.out _ (HR.out.1.size)); clear hown0)
      | (refine ⟨trivial, ?_⟩; gi_at_call 24; refine (((callsIn_wide.2 (ps_del HA.out cut HX.out.1)).inRound l).mono ?_); rintro e w3 ⟨rfl, hA'⟩; have cb := (HB.out.1.keeps hA'.1 (fun h => h HF3.out.1)).cell; have cc := (HB.out.2.1.keeps hA'.1 (fun h => h HF3.out.2.1)).cell; have c7 := (HB.out.2.2.1.keeps hA'.1 (fun h => h HF3.out.2.2.1)).cell; have c8 := (HB.out.2.2.2.keeps hA'.1 (fun h => h HF3.out.2.2.2)).cell; have HA := Lib.hid hA'; clear hA')
      | (refine ⟨trivial, ?_⟩; gi_at_call 25; refine (((callsIn_wide.2 (ps_rdel HA.out cut)).inRound l).mono ?_); rintro e w4 ⟨rfl, hA'⟩; have cb := (HB.out.1.keeps hA'.1 (fun h => h HF3.out.1)).cell; have cc := (HB.out.2.1.keeps hA'.1 (fun h => h HF3.out.2.1)).cell; have c7 := (HB.out.2.2.1.keeps hA'.1 (fun h => h HF3.out.2.2.1)).cell; have c8 := (HB.out.2.2.2.keeps hA'.1 (fun h => h HF3.out.2.2.2)).cell; have HA := Lib.hid hA'; clear hA')
      | (refine ⟨trivial, ?_⟩; gi_at_call 20; refine (((callsIn_wide.2 (mw_put HA.out b HX.out.2)).inRound l).mono ?_); rintro e w5 ⟨rfl, hA'⟩; have cb := (HB.out.1.keeps hA'.1 (fun h => h HF3.out.1)).cell; have cc := (HB.out.2.1.keeps hA'.1 (fun h => h HF3.out.2.1)).cell; have c7 := (HB.out.2.2.1.keeps hA'.1 (fun h => h HF3.out.2.2.1)).cell; have c8 := (HB.out.2.2.2.keeps hA'.1 (fun h => h HF3.out.2.2.2)).cell; have HA := Lib.hid hA'; clear hA')
      | (refine ⟨trivial, ?_⟩; gi_at_call 21; refine (((callsIn_wide.2 (mw_rput HA.out b HX.out.2)).inRound l).mono ?_); rintro e w6 ⟨rfl, hA'⟩; have cb := (HB.out.1.keeps hA'.1 (fun h => h HF3.out.1)).cell; have cc := (HB.out.2.1.keeps hA'.1 (fun h => h HF3.out.2.1)).cell; have c7 := (HB.out.2.2.1.keeps hA'.1 (fun h => h HF3.out.2.2.1)).cell; have c8 := (HB.out.2.2.2.keeps hA'.1 (fun h => h HF3.out.2.2.2)).cell; have HA := Lib.hid hA'; clear hA'))
    obtain ⟨r1, r2, r3, r4, r5, r6⟩ := HR.out
    obtain ⟨g1, g2, g3, g4, g5, g6, g7, g8⟩ := HG.out
    have hL : mwL cut b L (pre ++ [x]) = mwAfter cut b L := by simp [mwL]
    obtain ⟨hK, _, S1', S2', hT', hR', hd1, hd2⟩ := HA.out
    have hsz := g7.size
    have hF2 := HF.out
    have hlt := HO.out
    have hs1 := r1.size
    have hs2 := hK.size
    have hg : Wr.heap.size ≤ g' := by rcases r2 with h | h; exact hlt _ h; omega
    have hnew : ∀ k, ¬ (k < (w1.setCell ⟨B13, 0, none⟩ (.slice (some ⟨g', 0, none⟩) (pre.length + 1) cap')).heap.size ∧ ¬ S1 k ∧ ¬ S2 k) → (w1.setCell ⟨B13, 0, none⟩ (.slice (some ⟨g', 0, none⟩) (pre.length + 1) cap')).heap.size ≤ k ∨ S1 k ∨ S2 k := fun k hk => by
      rcases Nat.lt_or_ge k (w1.setCell ⟨B13, 0, none⟩ (.slice (some ⟨g', 0, none⟩) (pre.length + 1) cap')).heap.size with h | h
      · by_cases h1 : S1 k
        · exact .inr (.inl h1)
        · by_cases h2 : S2 k
          · exact .inr (.inr h2)
          · exact absurd ⟨h, h1, h2⟩ hk
      · exact .inl h
    have hB13l := r5.lt
    have ng : ∀ k, ¬ (k < (w1.setCell ⟨B13, 0, none⟩ (.slice (some ⟨g', 0, none⟩) (pre.length + 1) cap')).heap.size ∧ ¬ S1 k ∧ ¬ S2 k) → ¬ Far2 k ∧ k ≠ B13 ∧ k ≠ g' := fun k hk => by
      rcases hnew k hk with h | h | h
      · exact ⟨fun hf => by have := hF2 k hf; omega, by omega, by omega⟩
      · obtain ⟨q1, q2, q3, q4⟩ := g5 k h
        refine ⟨q2, q3, fun e => ?_⟩
        subst e
        rcases r2 with h' | h'
        · exact q4 h'
        · have := g3.inb _ h; omega
      · obtain ⟨q1, q2, q3⟩ := g6 k h
        refine ⟨q1, q2, fun e => ?_⟩
        subst e
        rcases r2 with h' | h'
        · exact q3 h'
        · have := g4.inb _ h; omega
    refine ⟨fun k => k = B13 ∨ k = g' ∨ S1' k ∨ S2' k, ⟨(r1.mono (fun k _ hk => (g8 k).2 ?_)).then hK (fun k hk hn => (g8 k).2 ?_), fun k hk => ?_⟩, fun k hk => ?_, some ⟨g', 0, none⟩, cap', S1', S2', r5.keeps hK (fun h => (ng _ h).2.1 rfl), owns_keeps r6 hK (fun k hk h => by simp [Value.ownBlock] at hk; subst hk; exact (ng _ h).2.2 rfl), by rw [hL]; exact hT', by rw [hL]; exact hR', fun k hk => ?_, fun k hk => ?_, (g7.trans (r1.mono (fun k _ hk hf => ?_))).trans (hK.mono (fun k _ h => (ng k h).1)), fun k => ?_⟩
    · rcases hk with h | h
      · exact .inl h
      · exact .inr (.inl h)
    · rcases hnew k hn with h | h | h
      · omega
      · exact .inr (.inr (.inl h))
      · exact .inr (.inr (.inr h))
    · have hh : ∀ k, ¬ (k < (w1.setCell ⟨B13, 0, none⟩ (.slice (some ⟨g', 0, none⟩) (pre.length + 1) cap')).heap.size ∧ ¬ S1 k ∧ ¬ S2 k) → S k ∨ W.heap.size ≤ k := fun k h => by
        rcases hnew k h with h | h | h
        · exact .inr (by omega)
        · exact .inl ((g8 k).2 (.inr (.inr (.inl h))))
        · exact .inl ((g8 k).2 (.inr (.inr (.inr h))))
      rcases hk with h | rfl | h | h
      · exact .inl ((g8 k).2 (.inl h))
      · rcases r2 with h | h
        · exact .inl ((g8 _).2 (.inr (.inl h)))
        · exact .inr h
      · exact hh k (hd1 k h).2
      · exact hh k (hd2 k h)
    · rcases hk with rfl | rfl | h | h
      · omega
      · omega
      · exact hT'.inb k h
      · exact hR'.inb k h
    · obtain ⟨q1, q2⟩ := hd1 k hk
      obtain ⟨q3, q4, q5⟩ := ng k q2
      exact ⟨q1, q3, q4, fun e => by simp [Value.ownBlock] at e; exact q5 e.symm⟩
    · obtain ⟨q3, q4, q5⟩ := ng k (hd2 k hk)
      exact ⟨q3, q4, fun e => by simp [Value.ownBlock] at e; exact q5 e.symm⟩
    · have := hF2 k hf
      rcases hk with h | h
      · omega
      · have := hlt k h; omega
    · simp [Value.ownBlock, eq_comm]
  · have hp1 : ¬ (pre.length : Int) + 1 = 1 := by
      have := List.length_pos_iff.2 hp
      omega
    have HP := Lib.hid hp
    clear hp
    conv => arg 4; whnf
    gi_wp2_with (gi_at_builtin; refine wpListIn_append_own_at _ rfl (.tmp 67) (.tmp 69) 51 rfl Wr.heap.size 32 i0 _ 1 4 Try.underlying51 hi0 hz0 hz1' hz2 rfl (by decide) (.slice sa pre.length sc) pre.length (u32s pre) rfl (HG.out.2.1.alloc _) ⟨W.heap.size, 0, none⟩ 1 1 [.int .u32 (x : Int)] rfl rfl (by exact Mem.news_new W _ [_]) (by simp [Value.oneCell']) (by unfold maxLen; omega) (by omega) (by have := HG.out.2.2.2.2.2.2.1.size; simp; omega) ?_; intro v' w1 hown hgrow _ hat; obtain ⟨g', cap', rfl⟩ := ownsRow_succ hown; have h51 := (HG.out.1.alloc (.cells #[.int .u32 (x : Int)] 32)).grown hgrow (own_ne HG.out.2.1 HG.out.1 (by decide)); have HR := Lib.hid (row_grow HG.out.2.1 h51 hown hgrow hat); have c51 := h51.cell 0; have f51 := h51.frozen 0; simp only [List.getElem?_cons_zero] at c51; clear c13 f13 h51 hown hgrow hat)
    obtain ⟨r1, r2, r3, r4, r5, r6⟩ := HR.out
    obtain ⟨g1, g2, g3, g4, g5, g6, g7, g8⟩ := HG.out
    have hL : mwL cut b L (pre ++ [x]) = mwL cut b L pre := by simp [mwL, HP.out]
    have hsz := g7.size
    have hF2 := HF.out
    have hlt := HO.out
    have hg : Wr.heap.size ≤ g' := by rcases r2 with h | h; exact hlt _ h; omega
    refine ⟨fun k => k = B13 ∨ k = g' ∨ S1 k ∨ S2 k, ⟨r1.mono (fun k _ hk => (g8 k).2 ?_), fun k hk => ?_⟩, fun k hk => ?_, some ⟨g', 0, none⟩, cap', S1, S2, r5, r6, ?_, ?_, fun k hk => ?_, fun k hk => ?_, g7.trans (r1.mono (fun k _ hk hf => ?_)), fun k => ?_⟩
    · rcases hk with h | h
      · exact .inl h
      · exact .inr (.inl h)
    · rcases hk with h | rfl | h | h
      · exact .inl ((g8 k).2 (.inl h))
      · rcases r2 with h | h
        · exact .inl ((g8 _).2 (.inr (.inl h)))
        · exact .inr h
      · exact .inl ((g8 k).2 (.inr (.inr (.inl h))))
      · exact .inl ((g8 k).2 (.inr (.inr (.inr h))))
    · have hs1 := r1.size
      rcases hk with rfl | rfl | h | h
      · exact r5.lt
      · exact r4
      · have := g3.inb k h; omega
      · have := g4.inb k h; omega
    · rw [hL]; exact g3.keeps r1 (fun k hk h => by rcases h with h | h; exact (g5 k hk).2.2.1 h; exact (g5 k hk).2.2.2 h)
    · rw [hL]; exact g4.keeps r1 (fun k hk h => by rcases h with h | h; exact (g6 k hk).2.1 h; exact (g6 k hk).2.2 h)
    · obtain ⟨q1, q2, q3, q4⟩ := g5 k hk
      refine ⟨q1, q2, q3, fun e => ?_⟩
      simp [Value.ownBlock] at e
      subst e
      rcases r2 with h | h
      · exact q4 h
      · have := g3.inb _ hk; omega
    · obtain ⟨q1, q2, q3⟩ := g6 k hk
      refine ⟨q1, q2, fun e => ?_⟩
      simp [Value.ownBlock] at e
      subst e
      rcases r2 with h | h
      · exact q3 h
      · have := g4.inb _ hk; omega
    · have := hF2 k hf
      rcases hk with h | h
      · omega
      · have := hlt k h; omega
    · simp [Value.ownBlock, eq_comm]
end Tree
end Go.Proofs.Ytndghakagogmcaa
