/-
FiZ: FinderSame: a round of the script.
Flat: what came in of a type whose leaves are all whole numbers, opened to its cells.
Flat3: a slice of flat structs that came in, opened.
FiE2: FinderSame, walked.
FiO2: FinderSame: the script that came in, opened.
-/
import Derived.Test.YtdbpfbokfmpgcaaGreatZbuFiX0
import Derived.Test.YtdbpfbokfmpgcaaGreatZbvFiX1
import Derived.Test.YtdbpfbokfmpgcaaGreatZbwFiX2
import Derived.Test.YtdbpfbokfmpgcaaGreatZbtFiWFiY
import Derived.WalkKit
import Derived.ProofKit
import Derived.OpenShut
import Derived.ChangeOld
import Derived.Below
import Derived.ChangeArms
set_option linter.ambiguousOpen false
namespace Go.Proofs.YtdbpfbokfmpgcaaGreat
open Go.RowKit Go.Shelf
set_option linter.unusedVariables false
set_option linter.unusedSimpArgs false
set_option linter.ambiguousOpen false
attribute [local go_sem] Oper.semAt_some
namespace Fi
open Mem Gr Gs
open So (vals)
set_option maxHeartbeats 8000000 in
set_option maxRecDepth 100000 in
theorem script_round (w W : World) (BL : Nat) (v : Nat → Value) (F : Nat → Nat → Prop) (L : List (Nat × Bx)) (x : Stp) (hT : Tri w W BL v F L) (hid : x.id < 4294967296) (lb off n lc i : Nat) (hi : i < n) (hn : (n : Int) ≤ 9223372036854775807) (hlb : lb < w.heap.size)
    (hrow : ∀ j u, ([.int .i64 x.do_, .int .u32 (x.id : Int), .int .i32 x.b.x0, .int .i32 x.b.y0, .int .i32 x.b.x1, .int .i32 x.b.y1, .int .i32 x.px, .int .i32 x.py, .int .i32 x.qx, .int .i32 x.qy, .int .i64 x.stop] : List Value)[j]? = some u → w.cell? ⟨lb, off + i * 11 + j, none⟩ = some u) (X : Nat → Act → World → Prop) (R : Act → World → Prop) (a : Act) (hF : Fr a 189 [(2, .slice (some ⟨lb, off, none⟩) n lc), (7, .pointer (some ⟨BL, 0, none⟩)), (12, .int .i64 (i : Int))]) : sameO.wp Tryz.prog (Outs (fun a' W' => ∃ F' L', Fr a' 189 [(2, .slice (some ⟨lb, off, none⟩) n lc), (7, .pointer (some ⟨BL, 0, none⟩)), (12, .int .i64 ((i + 1 : Nat) : Int))] ∧ Tri w W' BL v F' L') X R) a W := by
  revert hF
  refine fun hF => frames189 (P := fun a => Fr a 189 [(2, .slice (some ⟨lb, off, none⟩) n lc), (7, .pointer (some ⟨BL, 0, none⟩)), (12, .int .i64 (i : Int))] → sameO.wp Tryz.prog (Outs (fun a' W' => ∃ F' L', Fr a' 189 [(2, .slice (some ⟨lb, off, none⟩) n lc), (7, .pointer (some ⟨BL, 0, none⟩)), (12, .int .i64 ((i + 1 : Nat) : Int))] ∧ Tri w W' BL v F' L') X R) a W) ?_ a hF.1 hF.2.1 hF
  intro u0 u1 u2 u3 u4 u5 u6 u7 u8 u9 u10 u11 u12 u13 u14 u15 u16 u17 u18 u19 u20 u21 u22 u23 u24 u25 u26 u27 u28 u29 u30 u31 u32 u33 u34 u35 u36 u37 u38 u39 u40 u41 u42 u43 u44 u45 u46 u47 u48 u49 u50 u51 u52 u53 u54 u55 u56 u57 u58 u59 u60 u61 u62 u63 u64 u65 u66 u67 u68 u69 u70 u71 u72 u73 u74 u75 u76 u77 u78 u79 u80 u81 u82 u83 u84 u85 u86 u87 u88 u89 u90 u91 u92 u93 u94 u95 u96 u97 u98 u99 u100 u101 u102 u103 u104 u105 u106 u107 u108 u109 u110 u111 u112 u113 u114 u115 u116 u117 u118 u119 u120 u121 u122 u123 u124 u125 u126 u127 u128 u129 u130 u131 u132 u133 u134 u135 u136 u137 u138 u139 u140 u141 u142 u143 u144 u145 u146 u147 u148 u149 u150 u151 u152 u153 u154 u155 u156 u157 u158 u159 u160 u161 u162 u163 u164 u165 u166 u167 u168 u169 u170 u171 u172 u173 u174 u175 u176 u177 u178 u179 u180 u181 u182 u183 u184 u185 u186 u187 u188 hF
  obtain rfl : u2 = .slice (some ⟨lb, off, none⟩) n lc := hF.at_ 2 _ (by simp)
  obtain rfl : u7 = .pointer (some ⟨BL, 0, none⟩) := hF.at_ 7 _ (by simp)
  obtain rfl : u12 = .int .i64 (i : Int) := hF.at_ 12 _ (by simp)
  clear hF
  have hr : ∀ j u, ([.int .i64 x.do_, .int .u32 (x.id : Int), .int .i32 x.b.x0, .int .i32 x.b.y0, .int .i32 x.b.x1, .int .i32 x.b.y1, .int .i32 x.px, .int .i32 x.py, .int .i32 x.qx, .int .i32 x.qy, .int .i64 x.stop] : List Value)[j]? = some u → W.cell? ⟨lb, off + i * 11 + j, none⟩ = some u := fun j u hj => hT.keep.cell (p := ⟨lb, off + i * 11 + j, none⟩) (hrow j u hj) (fun h => by simp only at h; omega)
  have r0 := hr 0 _ rfl
  have r1 := hr 1 _ rfl
  have r2 := hr 2 _ rfl
  have r3 := hr 3 _ rfl
  have r4 := hr 4 _ rfl
  have r5 := hr 5 _ rfl
  have r6 := hr 6 _ rfl
  have r7 := hr 7 _ rfl
  have r8 := hr 8 _ rfl
  have r9 := hr 9 _ rfl
  have r10 := hr 10 _ rfl
  simp only [Nat.add_zero] at r0
  have hiI : (i : Int) < (n : Int) := by omega
  have hi0 : (0 : Int) ≤ (i : Int) := by omega
  have bX := Blk.new W 41 [.int .i64 x.do_, .int .u32 (x.id : Int), .int .i32 x.b.x0, .int .i32 x.b.y0, .int .i32 x.b.x1, .int .i32 x.b.y1, .int .i32 x.px, .int .i32 x.py, .int .i32 x.qx, .int .i32 x.qy, .int .i64 x.stop]
  have hT1 := hT.kd ((Keeps.refl (fun _ => False) W).alloc (.cells ([.int .i64 x.do_, .int .u32 (x.id : Int), .int .i32 x.b.x0, .int .i32 x.b.y0, .int .i32 x.b.x1, .int .i32 x.b.y1, .int .i32 x.px, .int .i32 x.py, .int .i32 x.qx, .int .i32 x.qy, .int .i64 x.stop] : List Value).toArray 41))
  have hnX : ∀ k, k < 3 → ¬ F k W.heap.size := fun k hk h => by have := (hT.fd k hk).inb _ h; omega
  have HT := Lib.hid (And.intro hT1 (And.intro bX hnX))
  have HH := Lib.hid (And.intro hid hlb)
  clear hT hrow hr hT1 bX hnX hi hid hlb
  conv => arg 2; whnf
  go_wp2
  obtain ⟨hT1, bX, hnX⟩ := HT.out
  obtain ⟨A, hA⟩ := ans_ex (coversP x.px x.py) 4294967296 hT1.ok.ids
  obtain ⟨T, hB⟩ := ans_ex (coversP x.qx x.qy) 4294967296 hT1.ok.ids
  obtain ⟨C, hC⟩ := ans_ex (tkC x.px x.py x.qx x.qy) 4294967296 hT1.ok.ids
  generalize hW1 : W.alloc (.cells #[.int .i64 x.do_, .int .u32 (x.id : Int), .int .i32 x.b.x0, .int .i32 x.b.y0, .int .i32 x.b.x1, .int .i32 x.b.y1, .int .i32 x.px, .int .i32 x.py, .int .i32 x.qx, .int .i32 x.qy, .int .i64 x.stop] 41) = W1 at *
  replace hT1 : Tri w W1 BL v F L := hT1
  replace bX : Blk W1 W.heap.size 41 [.int .i64 x.do_, .int .u32 (x.id : Int), .int .i32 x.b.x0, .int .i32 x.b.y0, .int .i32 x.b.x1, .int .i32 x.b.y1, .int .i32 x.px, .int .i32 x.py, .int .i32 x.qx, .int .i32 x.qy, .int .i64 x.stop] := bX
  refine wp_loop_ghost (fun m a' W' => ∃ (k : Int) (s1 s2 s3 : Value), 0 ≤ k ∧ k ≤ 3 ∧ m = (3 - k).toNat ∧ Fr a' 189 [(2, .slice (some ⟨lb, off, none⟩) n lc), (7, .pointer (some ⟨BL, 0, none⟩)), (12, .int .i64 (i : Int)), (13, .pointer (some ⟨W.heap.size, 0, none⟩)), (14, s1), (15, s2), (16, s3), (17, .int .i64 k)] ∧ Keeps (fun _ => False) W1 W' ∧ (k = 0 ∨ ((¬ (x.do_ = 0 ∨ x.do_ = 1)) ∧ Tree.U32s W' s1 A ∧ Tree.U32s W' s2 T ∧ Tree.U32s W' s3 C))) 3 ?_ ?_
  · exact ⟨0, .slice none 0 0, .slice none 0 0, .slice none 0 0, by omega, by omega, rfl, ⟨rfl, rfl, by simp⟩, Keeps.refl _ _, .inl rfl⟩
  rintro m a' W' ⟨k, s1, s2, s3, hk0, hk3, rfl, hF, hK, hu⟩
  have hT' := hT1.kd hK
  have bX' := bX.keeps hK (fun h => h)
  have hk : k = 0 ∨ k = 1 ∨ k = 2 ∨ k = 3 := by omega
  by_cases hdo : x.do_ = 0 ∨ x.do_ = 1
  · obtain rfl : k = 0 := by
      rcases hu with h | h
      · exact h
      · exact absurd hdo h.1
    have hF2 : Fr a' 189 [(2, .slice (some ⟨lb, off, none⟩) n lc), (7, .pointer (some ⟨BL, 0, none⟩)), (12, .int .i64 (i : Int)), (13, .pointer (some ⟨W.heap.size, 0, none⟩)), (17, .int .i64 0)] := ⟨hF.1, hF.2.1, fun p hp => hF.2.2 p (by simp at hp ⊢; rcases hp with h | h | h | h | h <;> simp [h])⟩
    refine wp_mono (chg_round w W' BL W.heap.size v F L x hT' bX' hnX HH.out.1 hdo _ _ (fun _ _ => False) (fun _ _ => False) a' hF2) ?_
    refine Outs.mono (fun _ _ h => h.elim) ?_ (fun _ _ h => h.elim)
    clear hF hF2
    rintro n4 a4 w4 ⟨rfl, F', L', hF, hT4⟩
    have H4 := Lib.hid hT4
    clear hT4 hT' bX' hT1 bX hK hu hA hB hC HT r0 r1 r2 r3 r4 r5 r6 r7 r8 r9 r10 hnX hdo hk hk0 hk3
    revert hF
    refine fun hF => frames189 (P := fun a4 => Fr a4 189 [(2, .slice (some ⟨lb, off, none⟩) n lc), (7, .pointer (some ⟨BL, 0, none⟩)), (12, .int .i64 (i : Int))] → Exit.then _ _ _ a4 w4) ?_ a4 hF.1 hF.2.1 hF
    intro u0 u1 u2 u3 u4 u5 u6 u7 u8 u9 u10 u11 u12 u13 u14 u15 u16 u17 u18 u19 u20 u21 u22 u23 u24 u25 u26 u27 u28 u29 u30 u31 u32 u33 u34 u35 u36 u37 u38 u39 u40 u41 u42 u43 u44 u45 u46 u47 u48 u49 u50 u51 u52 u53 u54 u55 u56 u57 u58 u59 u60 u61 u62 u63 u64 u65 u66 u67 u68 u69 u70 u71 u72 u73 u74 u75 u76 u77 u78 u79 u80 u81 u82 u83 u84 u85 u86 u87 u88 u89 u90 u91 u92 u93 u94 u95 u96 u97 u98 u99 u100 u101 u102 u103 u104 u105 u106 u107 u108 u109 u110 u111 u112 u113 u114 u115 u116 u117 u118 u119 u120 u121 u122 u123 u124 u125 u126 u127 u128 u129 u130 u131 u132 u133 u134 u135 u136 u137 u138 u139 u140 u141 u142 u143 u144 u145 u146 u147 u148 u149 u150 u151 u152 u153 u154 u155 u156 u157 u158 u159 u160 u161 u162 u163 u164 u165 u166 u167 u168 u169 u170 u171 u172 u173 u174 u175 u176 u177 u178 u179 u180 u181 u182 u183 u184 u185 u186 u187 u188 hF
    obtain rfl : u2 = .slice (some ⟨lb, off, none⟩) n lc := hF.at_ 2 _ (by simp)
    obtain rfl : u7 = .pointer (some ⟨BL, 0, none⟩) := hF.at_ 7 _ (by simp)
    obtain rfl : u12 = .int .i64 (i : Int) := hF.at_ 12 _ (by simp)
    clear hF
    go_wp2
    exact ⟨_, _, ⟨rfl, rfl, by simp⟩, H4.out⟩
  · have h0 : ¬ x.do_ = 0 := fun h => hdo (.inl h)
    have h1 : ¬ x.do_ = 1 := fun h => hdo (.inr h)
    rcases hk with rfl | rfl | rfl | rfl
    · refine wp_mono (ask_0 w W' BL W.heap.size v F L x hT' bX' A T C hA hB hC h0 h1 _ _ s1 s2 s3 (fun _ _ _ => False) (fun _ _ => False) a' hF) ?_
      refine Outs.mono ?_ (fun _ _ _ h => h.elim) (fun _ _ h => h.elim)
      rintro a5 W5 ⟨u1, u2, u3, hF5, hK5, g1, g2, g3⟩
      exact ⟨_, by decide, 1, u1, u2, u3, by omega, by omega, rfl, hF5, hK.trans hK5, .inr ⟨hdo, g1, g2, g3⟩⟩
    · obtain ⟨_, q1, q2, q3⟩ := hu.resolve_left (by omega)
      refine wp_mono (ask_1 w W' BL W.heap.size v F L x hT' bX' A T C hA hB hC h0 h1 _ _ s1 s2 s3 q1 q2 q3 (fun _ _ _ => False) (fun _ _ => False) a' hF) ?_
      refine Outs.mono ?_ (fun _ _ _ h => h.elim) (fun _ _ h => h.elim)
      rintro a5 W5 ⟨u1, u2, u3, hF5, hK5, g1, g2, g3⟩
      exact ⟨_, by decide, 2, u1, u2, u3, by omega, by omega, rfl, hF5, hK.trans hK5, .inr ⟨hdo, g1, g2, g3⟩⟩
    · obtain ⟨_, q1, q2, q3⟩ := hu.resolve_left (by omega)
      refine wp_mono (ask_2 w W' BL W.heap.size v F L x hT' bX' A T C hA hB hC h0 h1 _ _ s1 s2 s3 q1 q2 q3 (fun _ _ _ => False) (fun _ _ => False) a' hF) ?_
      refine Outs.mono ?_ (fun _ _ _ h => h.elim) (fun _ _ h => h.elim)
      rintro a5 W5 ⟨u1, u2, u3, hF5, hK5, g1, g2, g3⟩
      exact ⟨_, by decide, 3, u1, u2, u3, by omega, by omega, rfl, hF5, hK.trans hK5, .inr ⟨hdo, g1, g2, g3⟩⟩
    · have hF2 : Fr a' 189 [(2, .slice (some ⟨lb, off, none⟩) n lc), (7, .pointer (some ⟨BL, 0, none⟩)), (12, .int .i64 (i : Int)), (17, .int .i64 3)] := ⟨hF.1, hF.2.1, fun p hp => hF.2.2 p (by simp at hp ⊢; rcases hp with h | h | h | h <;> simp [h])⟩
      refine wp_mono (end_round W' BL W.heap.size _ _ (fun _ _ => False) (fun _ _ => False) a' hF2) ?_
      refine Outs.mono (fun _ _ h => h.elim) ?_ (fun _ _ h => h.elim)
      clear hF hF2
      rintro n4 a4 w4 ⟨rfl, rfl, hF⟩
      have H4 := Lib.hid hT'
      clear hT' bX' hT1 bX hK hu hA hB hC HT r0 r1 r2 r3 r4 r5 r6 r7 r8 r9 r10 hnX hdo hk0 hk3 h0 h1
      revert hF
      refine fun hF => frames189 (P := fun a4 => Fr a4 189 [(2, .slice (some ⟨lb, off, none⟩) n lc), (7, .pointer (some ⟨BL, 0, none⟩)), (12, .int .i64 (i : Int))] → Exit.then _ _ _ a4 w4) ?_ a4 hF.1 hF.2.1 hF
      intro u0 u1 u2 u3 u4 u5 u6 u7 u8 u9 u10 u11 u12 u13 u14 u15 u16 u17 u18 u19 u20 u21 u22 u23 u24 u25 u26 u27 u28 u29 u30 u31 u32 u33 u34 u35 u36 u37 u38 u39 u40 u41 u42 u43 u44 u45 u46 u47 u48 u49 u50 u51 u52 u53 u54 u55 u56 u57 u58 u59 u60 u61 u62 u63 u64 u65 u66 u67 u68 u69 u70 u71 u72 u73 u74 u75 u76 u77 u78 u79 u80 u81 u82 u83 u84 u85 u86 u87 u88 u89 u90 u91 u92 u93 u94 u95 u96 u97 u98 u99 u100 u101 u102 u103 u104 u105 u106 u107 u108 u109 u110 u111 u112 u113 u114 u115 u116 u117 u118 u119 u120 u121 u122 u123 u124 u125 u126 u127 u128 u129 u130 u131 u132 u133 u134 u135 u136 u137 u138 u139 u140 u141 u142 u143 u144 u145 u146 u147 u148 u149 u150 u151 u152 u153 u154 u155 u156 u157 u158 u159 u160 u161 u162 u163 u164 u165 u166 u167 u168 u169 u170 u171 u172 u173 u174 u175 u176 u177 u178 u179 u180 u181 u182 u183 u184 u185 u186 u187 u188 hF
      obtain rfl : u2 = .slice (some ⟨lb, off, none⟩) n lc := hF.at_ 2 _ (by simp)
      obtain rfl : u7 = .pointer (some ⟨BL, 0, none⟩) := hF.at_ 7 _ (by simp)
      obtain rfl : u12 = .int .i64 (i : Int) := hF.at_ 12 _ (by simp)
      clear hF
      go_wp2
      exact ⟨_, _, ⟨rfl, rfl, by simp⟩, H4.out⟩
end Fi
end Go.Proofs.YtdbpfbokfmpgcaaGreat
namespace Go.Proofs.YtdbpfbokfmpgcaaGreat
open Go.ChangeShapes Go.WideShapes Go.ChangeAt Go.RowKit
set_option linter.unusedVariables false
namespace Flat
def flatFs (go : TypeId → Option (List IntKind)) (P : Program) : Nat → List Field → Option (List IntKind)
  | _, [] => some []
  | o, f :: fs => if f.offset = o then
      match go f.type with
      | some a => if a.length = P.cellsOf f.type then
          match flatFs go P (o + P.cellsOf f.type) fs with
          | some b => some (a ++ b)
          | none => none
        else none
      | none => none
    else none
def flat (P : Program) : Nat → TypeId → Option (List IntKind)
  | 0, _ => none
  | n + 1, t => match P.underlying t with
    | some (.int k) => some [k]
    | some (.struct fs) => match flatFs (flat P n) P 0 fs.toList with
      | some ks => if ks.length = P.cellsOf t then some ks else none
      | none => none
    | _ => none
/-- The cells are whole numbers of these kinds, each fitting its kind. -/
def Ints : List IntKind → List Value → Prop
  | [], cs => cs = []
  | k :: ks, cs => ∃ n cs', cs = .int k n :: cs' ∧ (Lit.int k n).wf = true ∧ Ints ks cs'
theorem Ints.append {a b : List IntKind} {c d : List Value} (h : Ints a c) (g : Ints b d) : Ints (a ++ b) (c ++ d) := by
  induction a generalizing c with
  | nil => cases h; exact g
  | cons k ks ih =>
    obtain ⟨n, cs', rfl, hw, h'⟩ := h
    exact ⟨n, cs' ++ d, rfl, hw, ih h'⟩
theorem Ints.length {a : List IntKind} {c : List Value} (h : Ints a c) : c.length = a.length := by
  induction a generalizing c with
  | nil => cases h; rfl
  | cons k ks ih =>
    obtain ⟨n, cs', rfl, hw, h'⟩ := h
    simp [ih h']
variable {H : Type} {enc : TypeId × Value → H} {P : Program} {w : World} {base : Nat} {spare : Nat → Bool} {held : Bool}
theorem flatFs_open (go : TypeId → Option (List IntKind)) (Q : TypeId → List Value → Prop) (hQ : ∀ t ks cs, go t = some ks → Q t cs → Ints ks cs) (cs : List Value) :
    ∀ (fs : List Field) (o : Nat) (ks : List IntKind), flatFs go P o fs = some ks → (∀ f ∈ fs, Q f.type ((cs.drop f.offset).take (P.cellsOf f.type))) → cs.length = o + ks.length → Ints ks (cs.drop o) := by
  intro fs
  induction fs with
  | nil =>
    intro o ks h _ hl
    simp only [flatFs, Option.some.injEq] at h
    subst h
    exact List.drop_eq_nil_of_le (by simpa using Nat.le_of_eq hl)
  | cons f fs ih =>
    intro o ks h hf hl
    simp only [flatFs] at h
    split at h
    · rename_i ho
      split at h
      · rename_i a ha
        split at h
        · rename_i hal
          split at h
          · rename_i b hb
            cases h
            have h1 := hQ _ _ _ ha (hf f (by simp))
            rw [ho] at h1
            have h2 := ih (o + P.cellsOf f.type) b hb (fun g hg => hf g (by simp [hg])) (by simp only [List.length_append] at hl; omega)
            rw [← List.drop_drop] at h2
            have := h1.append h2
            rwa [List.take_append_drop] at this
          · cases h
        · cases h
      · cases h
    · cases h
theorem flat_open : ∀ (n : Nat) (t : TypeId) (ks : List IntKind) (fuel : Nat) (cs : List Value) (x : DataW H × List MemPlace), flat P n t = some ks → DataW.trod enc P w base spare held fuel t cs = some x → Ints ks cs := by
  intro n
  induction n with
  | zero => intro t ks fuel cs x h; cases h
  | succ n ih =>
    intro t ks fuel cs x h hx
    simp only [flat] at h
    split at h
    · rename_i k ht
      cases h
      obtain ⟨m, rfl, _, hw⟩ := DataW.trod_int ht hx
      exact ⟨m, [], rfl, hw, rfl⟩
    · rename_i fs ht
      split at h
      · rename_i ks' hks
        split at h
        · rename_i hlen
          cases h
          obtain ⟨xs, m, rfl, _, hcl, hxl, hfs⟩ := DataW.trod_struct ht hx
          have := flatFs_open (P := P) (flat P n) (fun t cs => ∃ f x, DataW.trod enc P w base spare held f t cs = some x) (fun t ks cs h ⟨f, x, hx⟩ => ih t ks f cs x h hx) cs fs.toList 0 ks hks
            (fun f hf => by
              obtain ⟨i, hi, rfl⟩ := List.getElem_of_mem hf
              simp only [Array.length_toList] at hi
              have h1 := hfs i fs[i] (by simp [hi])
              exact ⟨m, xs[i]'(by omega), by simpa using h1.trans (List.getElem?_eq_getElem (by omega))⟩) (by omega)
          simpa using this
        · cases h
      · cases h
    · cases h
end Flat
end Go.Proofs.YtdbpfbokfmpgcaaGreat
namespace Go.Proofs.YtdbpfbokfmpgcaaGreat
open Go.ChangeShapes Go.WideShapes Go.ChangeAt Go.RowKit
set_option linter.unusedVariables false
namespace Flat
variable {H : Type} {enc : TypeId × Value → H} {P : Program} {w : World} {base : Nat} {spare : Nat → Bool} {held : Bool}
theorem flat_slice {n : Nat} {t e : TypeId} {ks : List IntKind} {fuel : Nat} {cs : List Value} {x : DataW H × List MemPlace} (ht : P.underlying t = some (.slice e)) (he : flat P n e = some ks) (hm : P.cellsOf e = ks.length) (h0 : 0 < ks.length) (h : DataW.trod enc P w base spare held fuel t cs = some x) :
    ∃ (a : Option Addr) (rows : List (List Value)) (cap : Nat), cs = [.slice a rows.length cap] ∧ rows.length ≤ maxLen ∧ (∀ r ∈ rows, Ints ks r) ∧ ∀ i r, rows[i]? = some r → ∃ b off, a = some ⟨b, off, none⟩ ∧ b < w.heap.size ∧ ∀ j u, r[j]? = some u → w.cell? ⟨b, off + i * ks.length + j, none⟩ = some u := by
  rcases DataW.trod_slice ht h with ⟨rfl, _⟩ | ⟨a, len, cap, elems, rest, m, _, rfl, rfl, hb, hl, hmx, hlen, hel, hsp, hns⟩
  · exact ⟨none, [], 0, rfl, Nat.zero_le _, by simp, by simp⟩
  have each : ∀ i, i < len → ∃ r, w.cells? base (a.add (i * ks.length)) ks.length = some r ∧ Ints ks r := fun i hi => by
    have h1 := hel i hi
    rw [List.getElem?_eq_getElem (by omega), Option.bind_eq_some_iff] at h1
    obtain ⟨r, hr, hx⟩ := h1
    rw [hm] at hr
    exact ⟨r, hr, flat_open n e ks m r _ he hx⟩
  refine ⟨some a, (List.range len).map fun i => (w.cells? base (a.add (i * ks.length)) ks.length).getD [], cap, by simp, by simp; omega, ?_, ?_⟩
  · intro r hr
    obtain ⟨i, hi, rfl⟩ := List.mem_map.1 hr
    obtain ⟨r, hr, hI⟩ := each i (List.mem_range.1 hi)
    rw [hr]; exact hI
  · intro i r hr
    have hi : i < len := by
      have := (List.getElem?_eq_some_iff.1 hr).1
      simpa using this
    obtain ⟨r', hr', hI⟩ := each i hi
    simp only [List.getElem?_map, List.getElem?_range hi, Option.map_some, hr', Option.getD_some, Option.some.injEq] at hr
    subst hr
    obtain ⟨hb', hl', hc⟩ := World.cells?_some hr'
    have hc0 := hc 0 h0
    have hlt : 0 < r'.length := by omega
    rw [List.getElem?_eq_getElem hlt] at hc0
    obtain ⟨b, off, spot⟩ := a
    have hspot : spot = none := by
      obtain ⟨r0, hr0, _⟩ := each 0 (by omega)
      obtain ⟨_, hl0, hz⟩ := World.cells?_some hr0
      have hz0 := hz 0 h0
      rw [List.getElem?_eq_getElem (by omega)] at hz0
      have := World.cell?_spot hz0
      simpa [Addr.add] using this
    subst hspot
    refine ⟨b, off, rfl, ?_, fun j u hj => ?_⟩
    · rw [add_plain, add_plain] at hc0
      unfold World.cell? at hc0
      split at hc0
      · rename_i hh; exact (Array.getElem?_eq_some_iff.1 hh).1
      · cases hc0
    · have hjl : j < ks.length := by have := (List.getElem?_eq_some_iff.1 hj).1; omega
      have := hc j hjl
      rw [add_plain, add_plain] at this
      rw [this, hj]
end Flat
end Go.Proofs.YtdbpfbokfmpgcaaGreat
namespace Go.Proofs.YtdbpfbokfmpgcaaGreat
open Go.RowKit Go.Shelf
set_option linter.unusedVariables false
set_option linter.unusedSimpArgs false
set_option linter.ambiguousOpen false
attribute [local go_sem] Oper.semAt_some
namespace Fi
open Mem Gr Gs
open So (vals)
def Said (w : World) (e : Ending) (w' : World) : Prop := e = .returned (.bool true) ∧ Keeps (fun k => w.heap.size ≤ k) w w'
theorem nil_nil (W : World) : (binOp .eql 24 .nilIface .nilIface).run Tryz.prog W = .ok (.bool true) W := by kernel_rfl
theorem fits_yes {s : Int} (hs : Size s) (i : Int) (h0 : 0 ≤ i) (h2 : i ≤ 2) (W : World) : Calls Tryz.prog 6 #[.int .i64 i, .int .i64 s] W fun e w' => e = .returned (.bool true) ∧ W = w' := by
  have := ffits_t i s h0 h2 W
  simpa only [decide_eq_true hs] using this
theorem fits_no {s : Int} (hs : ¬ Size s) (i : Int) (h0 : 0 ≤ i) (h2 : i ≤ 2) (W : World) : Calls Tryz.prog 6 #[.int .i64 i, .int .i64 s] W fun e w' => e = .returned (.bool false) ∧ W = w' := by
  have := ffits_t i s h0 h2 W
  simpa only [decide_eq_false hs] using this
/-- New's answer, its value written out -/
def NewQ (w : World) (e : Ending) (w' : World) : Prop := ∃ t B F, e = .returned (.tuple #[.iface t (.pointer (some ⟨B, 0, none⟩)), .int .i64 0]) ∧ Fd w' (.iface t (.pointer (some ⟨B, 0, none⟩))) F [] ∧ Keeps (fun _ => False) w w' ∧ ∀ k, F k → w.heap.size ≤ k
theorem NewP.q {w w' : World} {e : Ending} (h : NewP w e w') : NewQ w e w' := by
  obtain ⟨v, F, rfl, hF, k, hn⟩ := h
  obtain ⟨t, B, fP, fD, hC⟩ := Fd.chg hF OkL.nil
  have := hC.val
  subst this
  exact ⟨t, B, F, rfl, hF, k, hn⟩
theorem new_q {s : Int} (hs : Size s) (i : Int) (h0 : 0 ≤ i) (h2 : i ≤ 2) (W : World) : Calls Tryz.prog 5 #[.int .i64 i, .int .i64 s] W (NewQ W) := by
  have : i = 0 ∨ i = 1 ∨ i = 2 := by omega
  rcases this with rfl | rfl | rfl
  · exact (new_scan s hs W).mono (fun _ _ h => h.q)
  · exact (new_grid s hs W).mono (fun _ _ h => h.q)
  · exact (new_tree s hs W).mono (fun _ _ h => h.q)
set_option maxHeartbeats 4000000 in
set_option maxRecDepth 100000 in
theorem bad_first (w : World) (sa sb : Int) (ha : ¬ Size sa) (sv : Value) : Calls Tryz.prog 4 #[.int .i64 sa, .int .i64 sb, sv] w (Said w) := by
  have hnn := nil_nil
  have z1 := fun W => new_bad 0 sa ha W
  have z2 := fun W => fits_no ha 0 (by omega) (by omega) W
  clear ha
  go_enter Tryz.func4, Tryz.ntmps4
  go_wp2
  refine wp_loop_rounds 4 ?_
  rw [rounds_succ]
  go_wp2_with (first
    | (go_at_call 5; (with_reducible refine (z1 _).mono ?_); rintro e w1 ⟨rfl, k1⟩; have HK1 := Lib.hid (show Keeps (fun _ => False) w w1 from Keeps.trans (by (repeat (first | exact Keeps.refl _ _ | refine Keeps.alloc ?_ _ | refine Keeps.drew ?_))) k1); clear k1)
    | (go_at_call 6; (with_reducible refine (z2 _).mono ?_); rintro e w2 ⟨rfl, rfl⟩)
    | (go_at_call 7; (with_reducible refine (lives_t _).mono ?_); rintro e w3 ⟨rfl, k3⟩; have HK3 := Lib.hid (HK1.out.trans k3); clear k3))
  go_ret
  exact ⟨rfl, kf HK3.out⟩
/-! printed -/
set_option maxHeartbeats 8000000 in
set_option maxRecDepth 100000 in
theorem bad_last (w : World) (sa sb : Int) (ha : Size sa) (hb : ¬ Size sb) (sv : Value) : Calls Tryz.prog 4 #[.int .i64 sa, .int .i64 sb, sv] w (Said w) := by
  have heq := eq_nil
  have hnn := nil_nil
  have z0 := fun W => new_q ha 0 (by omega) (by omega) W
  have z1 := fun W => new_q ha 1 (by omega) (by omega) W
  have y0 := fun W => fits_yes ha 0 (by omega) (by omega) W
  have y1 := fun W => fits_yes ha 1 (by omega) (by omega) W
  have HB := Lib.hid (Blk.new w 55 [.nilIface, .nilIface, .nilIface])
  have z2 := fun W => new_bad 2 sb hb W
  have y2 := fun W => fits_no hb 2 (by omega) (by omega) W
  clear ha hb
  go_enter Tryz.func4, Tryz.ntmps4
  go_wp2
  refine wp_loop_rounds 4 ?_
  rw [rounds_succ]
  go_wp2_with (first | (go_at_call 5; (with_reducible refine (z0 _).mono ?_); rintro e w1 ⟨t0, B0, F0, rfl, hF, k, n⟩; have hb : Blk w1 w.heap.size 55 [.nilIface, .nilIface, .nilIface] := HB.out.keeps k (fun h => h); have cb := hb.cell; have fb := hb.frozen; have H0 := Lib.hid (And.intro hF (And.intro k (And.intro n hb))); clear hF k n hb) | (go_at_call 6; (with_reducible refine (y0 _).mono ?_); rintro e wf ⟨rfl, rfl⟩))
  clear cb fb
  rw [rounds_succ]
  go_wp2_with (first | (go_at_call 5; (with_reducible refine (z1 _).mono ?_); rintro e w2 ⟨t1, B1, F1, rfl, hF, k, n⟩; have hb : Blk w2 w.heap.size 55 [(Value.iface t0 (.pointer (some ⟨B0, 0, none⟩))), .nilIface, .nilIface] := (H0.out.2.2.2.set_ 0 (Value.iface t0 (.pointer (some ⟨B0, 0, none⟩)))).keeps k (fun h => h); have cb := hb.cell; have fb := hb.frozen; have H1 := Lib.hid (And.intro hF (And.intro k (And.intro n hb))); clear hF k n hb) | (go_at_call 6; (with_reducible refine (y1 _).mono ?_); rintro e wf ⟨rfl, rfl⟩))
  clear cb fb
  rw [rounds_succ]
  go_wp2_with (first
    | (go_at_call 5; (with_reducible refine (z2 _).mono ?_); rintro e w3 ⟨rfl, k2⟩; have HK2 := Lib.hid k2; clear k2)
    | (go_at_call 6; (with_reducible refine (y2 _).mono ?_); rintro e wf ⟨rfl, rfl⟩)
    | (go_at_call 7; (with_reducible refine (lives_t _).mono ?_); rintro e w4 ⟨rfl, k3⟩; have HK3 := Lib.hid (HK2.out.trans k3); clear k3))
  go_ret
  have q0 : Keeps (fun k => w.heap.size ≤ k) w w1 := ((Keeps.refl _ w).alloc _).trans (kf H0.out.2.1)
  have q1 := (q0.setCell (p := ⟨w.heap.size, 0, none⟩) (fun _ => Nat.le_refl _) (Value.iface t0 (.pointer (some ⟨B0, 0, none⟩)))).trans (kf H1.out.2.1)
  have q2 := (q1.setCell (p := ⟨w.heap.size, 1, none⟩) (fun _ => Nat.le_refl _) (Value.iface t1 (.pointer (some ⟨B1, 0, none⟩)))).trans (kf HK3.out)
  exact ⟨rfl, q2⟩
def RowsX (w : World) (la : Option Addr) (rows : List Stp) : Prop := ∀ i x, rows[i]? = some x → x.id < 4294967296 ∧ ∃ lb off, la = some ⟨lb, off, none⟩ ∧ lb < w.heap.size ∧ ∀ j u, ([.int .i64 x.do_, .int .u32 (x.id : Int), .int .i32 x.b.x0, .int .i32 x.b.y0, .int .i32 x.b.x1, .int .i32 x.b.y1, .int .i32 x.px, .int .i32 x.py, .int .i32 x.qx, .int .i32 x.qy, .int .i64 x.stop] : List Value)[j]? = some u → w.cell? ⟨lb, off + i * 11 + j, none⟩ = some u
set_option maxRecDepth 100000 in
theorem script_end (W : World) (BL n lc : Nat) (la : Option Addr) (N : Act → World → Prop) (R : Act → World → Prop) (a : Act) (hF : Fr a 189 [(2, .slice la n lc), (7, .pointer (some ⟨BL, 0, none⟩)), (12, .int .i64 (n : Int))]) : sameO.wp Tryz.prog (Outs N (fun n2 a' W' => n2 = 2 ∧ W' = W ∧ Fr a' 189 [(7, .pointer (some ⟨BL, 0, none⟩))]) R) a W := by
  revert hF
  refine fun hF => frames189 (P := fun a => Fr a 189 [(2, .slice la n lc), (7, .pointer (some ⟨BL, 0, none⟩)), (12, .int .i64 (n : Int))] → sameO.wp Tryz.prog (Outs N (fun n2 a' W' => n2 = 2 ∧ W' = W ∧ Fr a' 189 [(7, .pointer (some ⟨BL, 0, none⟩))]) R) a W) ?_ a hF.1 hF.2.1 hF
  intro u0 u1 u2 u3 u4 u5 u6 u7 u8 u9 u10 u11 u12 u13 u14 u15 u16 u17 u18 u19 u20 u21 u22 u23 u24 u25 u26 u27 u28 u29 u30 u31 u32 u33 u34 u35 u36 u37 u38 u39 u40 u41 u42 u43 u44 u45 u46 u47 u48 u49 u50 u51 u52 u53 u54 u55 u56 u57 u58 u59 u60 u61 u62 u63 u64 u65 u66 u67 u68 u69 u70 u71 u72 u73 u74 u75 u76 u77 u78 u79 u80 u81 u82 u83 u84 u85 u86 u87 u88 u89 u90 u91 u92 u93 u94 u95 u96 u97 u98 u99 u100 u101 u102 u103 u104 u105 u106 u107 u108 u109 u110 u111 u112 u113 u114 u115 u116 u117 u118 u119 u120 u121 u122 u123 u124 u125 u126 u127 u128 u129 u130 u131 u132 u133 u134 u135 u136 u137 u138 u139 u140 u141 u142 u143 u144 u145 u146 u147 u148 u149 u150 u151 u152 u153 u154 u155 u156 u157 u158 u159 u160 u161 u162 u163 u164 u165 u166 u167 u168 u169 u170 u171 u172 u173 u174 u175 u176 u177 u178 u179 u180 u181 u182 u183 u184 u185 u186 u187 u188 hF
  obtain rfl : u2 = .slice la n lc := hF.at_ 2 _ (by simp)
  obtain rfl : u7 = .pointer (some ⟨BL, 0, none⟩) := hF.at_ 7 _ (by simp)
  obtain rfl : u12 = .int .i64 (n : Int) := hF.at_ 12 _ (by simp)
  clear hF
  conv => arg 2; whnf
  go_wp2
  exact ⟨rfl, rfl, rfl, rfl, by simp⟩
set_option maxHeartbeats 8000000 in
set_option maxRecDepth 100000 in
theorem same_yes (w : World) (sa sb : Int) (ha : Size sa) (hb : Size sb) (la : Option Addr) (lc : Nat) (rows : List Stp) (hrows : RowsX w la rows) (hl : (rows.length : Int) ≤ 9223372036854775807) : Calls Tryz.prog 4 #[.int .i64 sa, .int .i64 sb, .slice la rows.length lc] w (Said w) := by
  have heq := eq_nil
  have hnn := nil_nil
  have z0 := fun W => new_q ha 0 (by omega) (by omega) W
  have z1 := fun W => new_q ha 1 (by omega) (by omega) W
  have y0 := fun W => fits_yes ha 0 (by omega) (by omega) W
  have y1 := fun W => fits_yes ha 1 (by omega) (by omega) W
  have HB := Lib.hid (Blk.new w 55 [.nilIface, .nilIface, .nilIface])
  have z2 := fun W => new_q hb 2 (by omega) (by omega) W
  have y2 := fun W => fits_yes hb 2 (by omega) (by omega) W
  have HR := Lib.hid (And.intro hrows hl)
  clear ha hb hrows hl
  go_enter Tryz.func4, Tryz.ntmps4
  go_wp2
  refine wp_loop_rounds 4 ?_
  rw [rounds_succ]
  go_wp2_with (first | (go_at_call 5; (with_reducible refine (z0 _).mono ?_); rintro e w1 ⟨t0, B0, F0, rfl, hF, k, n⟩; have hb : Blk w1 w.heap.size 55 [.nilIface, .nilIface, .nilIface] := HB.out.keeps k (fun h => h); have cb := hb.cell; have fb := hb.frozen; have H0 := Lib.hid (And.intro hF (And.intro k (And.intro n hb))); clear hF k n hb) | (go_at_call 6; (with_reducible refine (y0 _).mono ?_); rintro e wf ⟨rfl, rfl⟩))
  clear cb fb
  rw [rounds_succ]
  go_wp2_with (first | (go_at_call 5; (with_reducible refine (z1 _).mono ?_); rintro e w2 ⟨t1, B1, F1, rfl, hF, k, n⟩; have hb : Blk w2 w.heap.size 55 [(Value.iface t0 (.pointer (some ⟨B0, 0, none⟩))), .nilIface, .nilIface] := (H0.out.2.2.2.set_ 0 (Value.iface t0 (.pointer (some ⟨B0, 0, none⟩)))).keeps k (fun h => h); have cb := hb.cell; have fb := hb.frozen; have H1 := Lib.hid (And.intro hF (And.intro k (And.intro n hb))); clear hF k n hb) | (go_at_call 6; (with_reducible refine (y1 _).mono ?_); rintro e wf ⟨rfl, rfl⟩))
  clear cb fb
  rw [rounds_succ]
  go_wp2_with (first | (go_at_call 5; (with_reducible refine (z2 _).mono ?_); rintro e w3 ⟨t2, B2, F2, rfl, hF, k, n⟩; have hb : Blk w3 w.heap.size 55 [(Value.iface t0 (.pointer (some ⟨B0, 0, none⟩))), (Value.iface t1 (.pointer (some ⟨B1, 0, none⟩))), .nilIface] := (H1.out.2.2.2.set_ 1 (Value.iface t1 (.pointer (some ⟨B1, 0, none⟩)))).keeps k (fun h => h); have cb := hb.cell; have fb := hb.frozen; have H2 := Lib.hid (And.intro hF (And.intro k (And.intro n hb))); clear hF k n hb) | (go_at_call 6; (with_reducible refine (y2 _).mono ?_); rintro e wf ⟨rfl, rfl⟩))
  clear cb fb
  rw [rounds_succ]
  go_wp2
  have hT : Tri w (w3.setCell ⟨w.heap.size, 2, none⟩ (Value.iface t2 (.pointer (some ⟨B2, 0, none⟩)))) w.heap.size (fun k => if k = 0 then (Value.iface t0 (.pointer (some ⟨B0, 0, none⟩))) else if k = 1 then (Value.iface t1 (.pointer (some ⟨B1, 0, none⟩))) else (Value.iface t2 (.pointer (some ⟨B2, 0, none⟩)))) (pick3 F0 F1 F2) [] := by
    have hz0 := H0.out.2.1.size
    have hz1 := H1.out.2.1.size
    have hz2 := H2.out.2.1.size
    simp only [World.size_alloc, World.size_setCell] at hz0 hz1 hz2
    have m0 : ∀ x, F0 x → w.heap.size + 1 ≤ x := fun x hx => by simpa using H0.out.2.2.1 x hx
    have m1 : ∀ x, F1 x → w1.heap.size ≤ x := fun x hx => by simpa using H1.out.2.2.1 x hx
    have m2 : ∀ x, F2 x → w2.heap.size ≤ x := fun x hx => by simpa using H2.out.2.2.1 x hx
    have i0 := H0.out.1.inb
    have i1 := H1.out.1.inb
    have q0 : Keeps (fun k => w.heap.size ≤ k) w w1 := ((Keeps.refl _ w).alloc _).trans (kf H0.out.2.1)
    have q1 := (q0.setCell (p := ⟨w.heap.size, 0, none⟩) (fun _ => Nat.le_refl _) (Value.iface t0 (.pointer (some ⟨B0, 0, none⟩)))).trans (kf H1.out.2.1)
    have q2 := (q1.setCell (p := ⟨w.heap.size, 1, none⟩) (fun _ => Nat.le_refl _) (Value.iface t1 (.pointer (some ⟨B1, 0, none⟩)))).trans (kf H2.out.2.1)
    have q3 := q2.setCell (p := ⟨w.heap.size, 2, none⟩) (fun _ => Nat.le_refl _) (Value.iface t2 (.pointer (some ⟨B2, 0, none⟩)))
    have st : ∀ (W : World) (j : Nat) (u : Value), Keeps (fun k => k = w.heap.size) W (W.setCell ⟨w.heap.size, j, none⟩ u) := fun W j u => (Keeps.refl (fun k => k = w.heap.size) W).setCell (p := ⟨w.heap.size, j, none⟩) (fun _ => rfl) u
    refine ⟨H2.out.2.2.2.set_ 2 (Value.iface t2 (.pointer (some ⟨B2, 0, none⟩))), three ?_ ?_ ?_, OkL.nil, three ?_ ?_ ?_, three ?_ ?_ ?_, ?_, Nat.le_refl _, q3⟩
    · exact ((((H0.out.1.keeps (st _ 0 _) (fun x hx e => by have := m0 x hx; omega)).kd H1.out.2.1).keeps (st _ 1 _) (fun x hx e => by have := m0 x hx; omega)).kd H2.out.2.1).keeps (st _ 2 _) (fun x hx e => by have := m0 x hx; omega)
    · exact ((H1.out.1.keeps (st _ 1 _) (fun x hx e => by have := m1 x hx; omega)).kd H2.out.2.1).keeps (st _ 2 _) (fun x hx e => by have := m1 x hx; omega)
    · exact H2.out.1.keeps (st _ 2 _) (fun x hx e => by have := m2 x hx; omega)
    · exact fun x hx => by have := m0 x hx; omega
    · exact fun x hx => by have := m1 x hx; omega
    · exact fun x hx => by have := m2 x hx; omega
    · exact fun hx => by have := m0 _ hx; omega
    · exact fun hx => by have := m1 _ hx; omega
    · exact fun hx => by have := m2 _ hx; omega
    · intro j k hj hk hne x hx hy
      have hj' : j = 0 ∨ j = 1 ∨ j = 2 := by omega
      have hk' : k = 0 ∨ k = 1 ∨ k = 2 := by omega
      have e01 : F0 x → F1 x → False := fun h1 h2 => by have := i0 x h1; have := m1 x h2; omega
      have e02 : F0 x → F2 x → False := fun h1 h2 => by have := i0 x h1; have := m2 x h2; omega
      have e12 : F1 x → F2 x → False := fun h1 h2 => by have := i1 x h1; have := m2 x h2; omega
      rcases hj' with rfl | rfl | rfl <;> rcases hk' with rfl | rfl | rfl
      · omega
      · exact e01 hx hy
      · exact e02 hx hy
      · exact e01 hy hx
      · omega
      · exact e12 hx hy
      · exact e02 hy hx
      · exact e12 hy hx
      · omega
  generalize w3.setCell ⟨w.heap.size, 2, none⟩ (Value.iface t2 (.pointer (some ⟨B2, 0, none⟩))) = W at hT ⊢
  have HT := Lib.hid hT
  clear hT H0 H1 H2 HB heq hnn z0 z1 z2 y0 y1 y2
  refine wp_loop_ghost (fun m a' W' => ∃ (i : Nat) (F' : Nat → Nat → Prop) (L' : List (Nat × Bx)), i ≤ rows.length ∧ m = rows.length - i ∧ Fr a' 189 [(2, .slice la rows.length lc), (7, .pointer (some ⟨w.heap.size, 0, none⟩)), (12, .int .i64 (i : Int))] ∧ Tri w W' w.heap.size (fun k => if k = 0 then (Value.iface t0 (.pointer (some ⟨B0, 0, none⟩))) else if k = 1 then (Value.iface t1 (.pointer (some ⟨B1, 0, none⟩))) else (Value.iface t2 (.pointer (some ⟨B2, 0, none⟩)))) F' L') rows.length ?_ ?_
  · exact ⟨0, _, _, Nat.zero_le _, rfl, ⟨rfl, rfl, by simp⟩, HT.out⟩
  rintro m a' W' ⟨i, F', L', hi, rfl, hF, hT'⟩
  by_cases hlt : i < rows.length
  · obtain ⟨x, hx⟩ : ∃ x, rows[i]? = some x := ⟨_, List.getElem?_eq_getElem hlt⟩
    obtain ⟨hid, lb, off, hla, hlb, hrow⟩ := HR.out.1 i x hx
    subst hla
    refine wp_mono (script_round w W' w.heap.size _ F' L' x hT' hid lb off rows.length lc i hlt HR.out.2 hlb hrow (fun _ _ _ => False) (fun _ _ => False) a' hF) ?_
    refine Outs.mono ?_ (fun _ _ _ h => h.elim) (fun _ _ h => h.elim)
    rintro a5 W5 ⟨F5, L5, hF5, hT5⟩
    exact ⟨_, by omega, i + 1, F5, L5, by omega, rfl, hF5, hT5⟩
  · obtain rfl : i = rows.length := by omega
    refine wp_mono (script_end W' w.heap.size rows.length lc la (fun _ _ => False) (fun _ _ => False) a' hF) ?_
    refine Outs.mono (fun _ _ h => h.elim) ?_ (fun _ _ h => h.elim)
    clear hF
    rintro n4 a4 w4 ⟨rfl, rfl, hF⟩
    have HT4 := Lib.hid hT'
    clear hT' HT hi hlt
    revert hF
    refine fun hF => frames189 (P := fun a4 => Fr a4 189 [(7, .pointer (some ⟨w.heap.size, 0, none⟩))] → Exit.then _ _ _ a4 w4) ?_ a4 hF.1 hF.2.1 hF
    intro u0 u1 u2 u3 u4 u5 u6 u7 u8 u9 u10 u11 u12 u13 u14 u15 u16 u17 u18 u19 u20 u21 u22 u23 u24 u25 u26 u27 u28 u29 u30 u31 u32 u33 u34 u35 u36 u37 u38 u39 u40 u41 u42 u43 u44 u45 u46 u47 u48 u49 u50 u51 u52 u53 u54 u55 u56 u57 u58 u59 u60 u61 u62 u63 u64 u65 u66 u67 u68 u69 u70 u71 u72 u73 u74 u75 u76 u77 u78 u79 u80 u81 u82 u83 u84 u85 u86 u87 u88 u89 u90 u91 u92 u93 u94 u95 u96 u97 u98 u99 u100 u101 u102 u103 u104 u105 u106 u107 u108 u109 u110 u111 u112 u113 u114 u115 u116 u117 u118 u119 u120 u121 u122 u123 u124 u125 u126 u127 u128 u129 u130 u131 u132 u133 u134 u135 u136 u137 u138 u139 u140 u141 u142 u143 u144 u145 u146 u147 u148 u149 u150 u151 u152 u153 u154 u155 u156 u157 u158 u159 u160 u161 u162 u163 u164 u165 u166 u167 u168 u169 u170 u171 u172 u173 u174 u175 u176 u177 u178 u179 u180 u181 u182 u183 u184 u185 u186 u187 u188 hF
    obtain rfl : u7 = .pointer (some ⟨w.heap.size, 0, none⟩) := hF.at_ 7 _ (by simp)
    clear hF
    go_wp2_with (go_at_call 7; (with_reducible refine (lives_t _).mono ?_); rintro e w5 ⟨rfl, k5⟩)
    go_ret
    exact ⟨rfl, HT4.out.keep.trans (kf k5)⟩
end Fi
end Go.Proofs.YtdbpfbokfmpgcaaGreat
namespace Go.Proofs.YtdbpfbokfmpgcaaGreat
open Go.ChangeShapes Go.WideShapes Go.ChangeAt Go.RowKit
set_option linter.unusedVariables false
set_option linter.ambiguousOpen false
namespace Fi
open Mem Gs
theorem u32_wf0 {a : Int} (h : (Lit.int .u32 a).wf = true) : 0 ≤ a ∧ a ≤ 4294967295 := by
  have h1 : IntKind.u32.min = 0 := rfl
  have h2 : IntKind.u32.max = 4294967295 := rfl
  simp [Lit.wf] at h
  omega
def toStp : List Value → Stp
  | [.int _ k, .int _ id, .int _ a, .int _ b, .int _ c, .int _ d, .int _ e, .int _ f, .int _ g, .int _ h, .int _ s] => ⟨k, id.toNat, ⟨a, b, c, d⟩, e, f, g, h, s⟩
  | _ => ⟨0, 0, ⟨0, 0, 0, 0⟩, 0, 0, 0, 0, 0⟩
theorem toStp_cells {r : List Value} (h : Flat.Ints [.i64, .u32, .i32, .i32, .i32, .i32, .i32, .i32, .i32, .i32, .i64] r) : (toStp r).cells = r ∧ (toStp r).id < 4294967296 := by
  obtain ⟨k, c0, rfl, v0, n, c1, rfl, w0, a, c2, rfl, w1, b, c3, rfl, w2, c, c4, rfl, w3, d, c5, rfl, w4, e, c6, rfl, w5, f, c7, rfl, w6, g, c8, rfl, w7, h, c9, rfl, w8, s, c10, rfl, w9, rfl⟩ := h
  have := u32_wf0 w0
  have hn : (n.toNat : Int) = n := Int.toNat_of_nonneg (by omega)
  constructor
  · simp [toStp, Stp.cells, hn]
  · simp only [toStp]; omega
theorem rows_of {w : World} {a : Option Addr} {rows : List (List Value)} (hI : ∀ r ∈ rows, Flat.Ints [.i64, .u32, .i32, .i32, .i32, .i32, .i32, .i32, .i32, .i32, .i64] r)
    (h : ∀ i r, rows[i]? = some r → ∃ b off, a = some ⟨b, off, none⟩ ∧ b < w.heap.size ∧ ∀ j u, r[j]? = some u → w.cell? ⟨b, off + i * 11 + j, none⟩ = some u) : RowsX w a (rows.map toStp) := by
  intro i p hp
  rw [List.getElem?_map, Option.map_eq_some_iff] at hp
  obtain ⟨r, hr, rfl⟩ := hp
  obtain ⟨b, off, ha, hb, hc⟩ := h i r hr
  have hz := toStp_cells (hI r (List.mem_of_getElem? hr))
  refine ⟨hz.2, b, off, ha, hb, fun j u hj => hc j u ?_⟩
  have hj' : (toStp r).cells[j]? = some u := hj
  rw [hz.1] at hj'
  exact hj'
theorem same_any (w : World) (sa sb : Int) (a : Option Addr) (cap : Nat) (rows : List (List Value)) (hI : ∀ r ∈ rows, Flat.Ints [.i64, .u32, .i32, .i32, .i32, .i32, .i32, .i32, .i32, .i32, .i64] r)
    (h : ∀ i r, rows[i]? = some r → ∃ b off, a = some ⟨b, off, none⟩ ∧ b < w.heap.size ∧ ∀ j u, r[j]? = some u → w.cell? ⟨b, off + i * 11 + j, none⟩ = some u) (hl : rows.length ≤ maxLen) :
    Calls Tryz.prog 4 #[.int .i64 sa, .int .i64 sb, .slice a rows.length cap] w fun e w' => e = .returned (.bool true) ∧ Below w.heap.size w w' := by
  have fin : ∀ e w', Said w e w' → e = .returned (.bool true) ∧ Below w.heap.size w w' := fun e w' h => ⟨h.1, h.2.below (Nat.le_refl _) (fun k hk h => by omega)⟩
  by_cases ha : Size sa
  · by_cases hb : Size sb
    · have := same_yes w sa sb ha hb a cap (rows.map toStp) (rows_of hI h) (by unfold maxLen at hl; simp; omega)
      rw [List.length_map] at this
      exact this.mono fin
    · exact (bad_last w sa sb ha hb _).mono fin
  · exact (bad_first w sa sb ha _).mono fin
end Fi
end Go.Proofs.YtdbpfbokfmpgcaaGreat
