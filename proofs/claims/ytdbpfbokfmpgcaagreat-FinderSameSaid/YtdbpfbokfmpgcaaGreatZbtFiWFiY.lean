/-
FiW: FinderSame: the state between two rounds; what is asked; frames.
FiY: FinderSame: the round that changes all three.
-/
import Derived.Test.YtdbpfbokfmpgcaaGreatZbsFiV
import Derived.Test.YtdbpfbokfmpgcaaGreatZaaMemIterTreeAHeldGrowIter
set_option linter.ambiguousOpen false
namespace Go.Proofs.YtdbpfbokfmpgcaaGreat
open Go.RowKit Go.Shelf
set_option linter.unusedVariables false
set_option linter.unusedSimpArgs false
set_option linter.ambiguousOpen false
attribute [local go_sem] Oper.semAt_some
namespace Fi
open Mem Gr Gs
open So (vals)
theorem frames189 {P : Act → Prop} (hP : ∀ u0 u1 u2 u3 u4 u5 u6 u7 u8 u9 u10 u11 u12 u13 u14 u15 u16 u17 u18 u19 u20 u21 u22 u23 u24 u25 u26 u27 u28 u29 u30 u31 u32 u33 u34 u35 u36 u37 u38 u39 u40 u41 u42 u43 u44 u45 u46 u47 u48 u49 u50 u51 u52 u53 u54 u55 u56 u57 u58 u59 u60 u61 u62 u63 u64 u65 u66 u67 u68 u69 u70 u71 u72 u73 u74 u75 u76 u77 u78 u79 u80 u81 u82 u83 u84 u85 u86 u87 u88 u89 u90 u91 u92 u93 u94 u95 u96 u97 u98 u99 u100 u101 u102 u103 u104 u105 u106 u107 u108 u109 u110 u111 u112 u113 u114 u115 u116 u117 u118 u119 u120 u121 u122 u123 u124 u125 u126 u127 u128 u129 u130 u131 u132 u133 u134 u135 u136 u137 u138 u139 u140 u141 u142 u143 u144 u145 u146 u147 u148 u149 u150 u151 u152 u153 u154 u155 u156 u157 u158 u159 u160 u161 u162 u163 u164 u165 u166 u167 u168 u169 u170 u171 u172 u173 u174 u175 u176 u177 u178 u179 u180 u181 u182 u183 u184 u185 u186 u187 u188 : Value, P ⟨#[u0, u1, u2, u3, u4, u5, u6, u7, u8, u9, u10, u11, u12, u13, u14, u15, u16, u17, u18, u19, u20, u21, u22, u23, u24, u25, u26, u27, u28, u29, u30, u31, u32, u33, u34, u35, u36, u37, u38, u39, u40, u41, u42, u43, u44, u45, u46, u47, u48, u49, u50, u51, u52, u53, u54, u55, u56, u57, u58, u59, u60, u61, u62, u63, u64, u65, u66, u67, u68, u69, u70, u71, u72, u73, u74, u75, u76, u77, u78, u79, u80, u81, u82, u83, u84, u85, u86, u87, u88, u89, u90, u91, u92, u93, u94, u95, u96, u97, u98, u99, u100, u101, u102, u103, u104, u105, u106, u107, u108, u109, u110, u111, u112, u113, u114, u115, u116, u117, u118, u119, u120, u121, u122, u123, u124, u125, u126, u127, u128, u129, u130, u131, u132, u133, u134, u135, u136, u137, u138, u139, u140, u141, u142, u143, u144, u145, u146, u147, u148, u149, u150, u151, u152, u153, u154, u155, u156, u157, u158, u159, u160, u161, u162, u163, u164, u165, u166, u167, u168, u169, u170, u171, u172, u173, u174, u175, u176, u177, u178, u179, u180, u181, u182, u183, u184, u185, u186, u187, u188], []⟩) : ∀ a : Act, a.tmps.size = 189 → a.defers = [] → P a := by
  rintro ⟨⟨t⟩, d⟩ h1 h2
  simp only [List.size_toArray] at h1 h2
  subst h2
  have h := unroll t 189 h1
  have e : (List.range 189).map (fun i => t.getD i undef) = [t.getD 0 undef, t.getD 1 undef, t.getD 2 undef, t.getD 3 undef, t.getD 4 undef, t.getD 5 undef, t.getD 6 undef, t.getD 7 undef, t.getD 8 undef, t.getD 9 undef, t.getD 10 undef, t.getD 11 undef, t.getD 12 undef, t.getD 13 undef, t.getD 14 undef, t.getD 15 undef, t.getD 16 undef, t.getD 17 undef, t.getD 18 undef, t.getD 19 undef, t.getD 20 undef, t.getD 21 undef, t.getD 22 undef, t.getD 23 undef, t.getD 24 undef, t.getD 25 undef, t.getD 26 undef, t.getD 27 undef, t.getD 28 undef, t.getD 29 undef, t.getD 30 undef, t.getD 31 undef, t.getD 32 undef, t.getD 33 undef, t.getD 34 undef, t.getD 35 undef, t.getD 36 undef, t.getD 37 undef, t.getD 38 undef, t.getD 39 undef, t.getD 40 undef, t.getD 41 undef, t.getD 42 undef, t.getD 43 undef, t.getD 44 undef, t.getD 45 undef, t.getD 46 undef, t.getD 47 undef, t.getD 48 undef, t.getD 49 undef, t.getD 50 undef, t.getD 51 undef, t.getD 52 undef, t.getD 53 undef, t.getD 54 undef, t.getD 55 undef, t.getD 56 undef, t.getD 57 undef, t.getD 58 undef, t.getD 59 undef, t.getD 60 undef, t.getD 61 undef, t.getD 62 undef, t.getD 63 undef, t.getD 64 undef, t.getD 65 undef, t.getD 66 undef, t.getD 67 undef, t.getD 68 undef, t.getD 69 undef, t.getD 70 undef, t.getD 71 undef, t.getD 72 undef, t.getD 73 undef, t.getD 74 undef, t.getD 75 undef, t.getD 76 undef, t.getD 77 undef, t.getD 78 undef, t.getD 79 undef, t.getD 80 undef, t.getD 81 undef, t.getD 82 undef, t.getD 83 undef, t.getD 84 undef, t.getD 85 undef, t.getD 86 undef, t.getD 87 undef, t.getD 88 undef, t.getD 89 undef, t.getD 90 undef, t.getD 91 undef, t.getD 92 undef, t.getD 93 undef, t.getD 94 undef, t.getD 95 undef, t.getD 96 undef, t.getD 97 undef, t.getD 98 undef, t.getD 99 undef, t.getD 100 undef, t.getD 101 undef, t.getD 102 undef, t.getD 103 undef, t.getD 104 undef, t.getD 105 undef, t.getD 106 undef, t.getD 107 undef, t.getD 108 undef, t.getD 109 undef, t.getD 110 undef, t.getD 111 undef, t.getD 112 undef, t.getD 113 undef, t.getD 114 undef, t.getD 115 undef, t.getD 116 undef, t.getD 117 undef, t.getD 118 undef, t.getD 119 undef, t.getD 120 undef, t.getD 121 undef, t.getD 122 undef, t.getD 123 undef, t.getD 124 undef, t.getD 125 undef, t.getD 126 undef, t.getD 127 undef, t.getD 128 undef, t.getD 129 undef, t.getD 130 undef, t.getD 131 undef, t.getD 132 undef, t.getD 133 undef, t.getD 134 undef, t.getD 135 undef, t.getD 136 undef, t.getD 137 undef, t.getD 138 undef, t.getD 139 undef, t.getD 140 undef, t.getD 141 undef, t.getD 142 undef, t.getD 143 undef, t.getD 144 undef, t.getD 145 undef, t.getD 146 undef, t.getD 147 undef, t.getD 148 undef, t.getD 149 undef, t.getD 150 undef, t.getD 151 undef, t.getD 152 undef, t.getD 153 undef, t.getD 154 undef, t.getD 155 undef, t.getD 156 undef, t.getD 157 undef, t.getD 158 undef, t.getD 159 undef, t.getD 160 undef, t.getD 161 undef, t.getD 162 undef, t.getD 163 undef, t.getD 164 undef, t.getD 165 undef, t.getD 166 undef, t.getD 167 undef, t.getD 168 undef, t.getD 169 undef, t.getD 170 undef, t.getD 171 undef, t.getD 172 undef, t.getD 173 undef, t.getD 174 undef, t.getD 175 undef, t.getD 176 undef, t.getD 177 undef, t.getD 178 undef, t.getD 179 undef, t.getD 180 undef, t.getD 181 undef, t.getD 182 undef, t.getD 183 undef, t.getD 184 undef, t.getD 185 undef, t.getD 186 undef, t.getD 187 undef, t.getD 188 undef] := rfl
  exact Eq.mpr (congrArg (fun l : List Value => P ⟨⟨l⟩, []⟩) (h.trans e)) (hP (t.getD 0 undef) (t.getD 1 undef) (t.getD 2 undef) (t.getD 3 undef) (t.getD 4 undef) (t.getD 5 undef) (t.getD 6 undef) (t.getD 7 undef) (t.getD 8 undef) (t.getD 9 undef) (t.getD 10 undef) (t.getD 11 undef) (t.getD 12 undef) (t.getD 13 undef) (t.getD 14 undef) (t.getD 15 undef) (t.getD 16 undef) (t.getD 17 undef) (t.getD 18 undef) (t.getD 19 undef) (t.getD 20 undef) (t.getD 21 undef) (t.getD 22 undef) (t.getD 23 undef) (t.getD 24 undef) (t.getD 25 undef) (t.getD 26 undef) (t.getD 27 undef) (t.getD 28 undef) (t.getD 29 undef) (t.getD 30 undef) (t.getD 31 undef) (t.getD 32 undef) (t.getD 33 undef) (t.getD 34 undef) (t.getD 35 undef) (t.getD 36 undef) (t.getD 37 undef) (t.getD 38 undef) (t.getD 39 undef) (t.getD 40 undef) (t.getD 41 undef) (t.getD 42 undef) (t.getD 43 undef) (t.getD 44 undef) (t.getD 45 undef) (t.getD 46 undef) (t.getD 47 undef) (t.getD 48 undef) (t.getD 49 undef) (t.getD 50 undef) (t.getD 51 undef) (t.getD 52 undef) (t.getD 53 undef) (t.getD 54 undef) (t.getD 55 undef) (t.getD 56 undef) (t.getD 57 undef) (t.getD 58 undef) (t.getD 59 undef) (t.getD 60 undef) (t.getD 61 undef) (t.getD 62 undef) (t.getD 63 undef) (t.getD 64 undef) (t.getD 65 undef) (t.getD 66 undef) (t.getD 67 undef) (t.getD 68 undef) (t.getD 69 undef) (t.getD 70 undef) (t.getD 71 undef) (t.getD 72 undef) (t.getD 73 undef) (t.getD 74 undef) (t.getD 75 undef) (t.getD 76 undef) (t.getD 77 undef) (t.getD 78 undef) (t.getD 79 undef) (t.getD 80 undef) (t.getD 81 undef) (t.getD 82 undef) (t.getD 83 undef) (t.getD 84 undef) (t.getD 85 undef) (t.getD 86 undef) (t.getD 87 undef) (t.getD 88 undef) (t.getD 89 undef) (t.getD 90 undef) (t.getD 91 undef) (t.getD 92 undef) (t.getD 93 undef) (t.getD 94 undef) (t.getD 95 undef) (t.getD 96 undef) (t.getD 97 undef) (t.getD 98 undef) (t.getD 99 undef) (t.getD 100 undef) (t.getD 101 undef) (t.getD 102 undef) (t.getD 103 undef) (t.getD 104 undef) (t.getD 105 undef) (t.getD 106 undef) (t.getD 107 undef) (t.getD 108 undef) (t.getD 109 undef) (t.getD 110 undef) (t.getD 111 undef) (t.getD 112 undef) (t.getD 113 undef) (t.getD 114 undef) (t.getD 115 undef) (t.getD 116 undef) (t.getD 117 undef) (t.getD 118 undef) (t.getD 119 undef) (t.getD 120 undef) (t.getD 121 undef) (t.getD 122 undef) (t.getD 123 undef) (t.getD 124 undef) (t.getD 125 undef) (t.getD 126 undef) (t.getD 127 undef) (t.getD 128 undef) (t.getD 129 undef) (t.getD 130 undef) (t.getD 131 undef) (t.getD 132 undef) (t.getD 133 undef) (t.getD 134 undef) (t.getD 135 undef) (t.getD 136 undef) (t.getD 137 undef) (t.getD 138 undef) (t.getD 139 undef) (t.getD 140 undef) (t.getD 141 undef) (t.getD 142 undef) (t.getD 143 undef) (t.getD 144 undef) (t.getD 145 undef) (t.getD 146 undef) (t.getD 147 undef) (t.getD 148 undef) (t.getD 149 undef) (t.getD 150 undef) (t.getD 151 undef) (t.getD 152 undef) (t.getD 153 undef) (t.getD 154 undef) (t.getD 155 undef) (t.getD 156 undef) (t.getD 157 undef) (t.getD 158 undef) (t.getD 159 undef) (t.getD 160 undef) (t.getD 161 undef) (t.getD 162 undef) (t.getD 163 undef) (t.getD 164 undef) (t.getD 165 undef) (t.getD 166 undef) (t.getD 167 undef) (t.getD 168 undef) (t.getD 169 undef) (t.getD 170 undef) (t.getD 171 undef) (t.getD 172 undef) (t.getD 173 undef) (t.getD 174 undef) (t.getD 175 undef) (t.getD 176 undef) (t.getD 177 undef) (t.getD 178 undef) (t.getD 179 undef) (t.getD 180 undef) (t.getD 181 undef) (t.getD 182 undef) (t.getD 183 undef) (t.getD 184 undef) (t.getD 185 undef) (t.getD 186 undef) (t.getD 187 undef) (t.getD 188 undef))
theorem keeps_eq {S : Nat → Prop} {w w' : World} (h : w = w') : Keeps S w w' := h ▸ Keeps.refl _ _
noncomputable def sameF : Code := Tryz.f4.body.getD .skip
noncomputable def sameO : Code := (loops sameF).getD 1 .skip
noncomputable def sameK : Code := (loops sameO).getD 0 .skip
theorem ans_ex {L : List (Nat × Bx)} (tk : Bx → Prop) [DecidablePred tk] (N : Nat) (h : ∀ p ∈ L, p.1 < N) : ∃ V, Ans L tk V := by
  refine ⟨(List.range N).filter fun id => L.any fun p => p.1 == id && decide (tk p.2), List.pairwise_lt_range.filter _, fun id => ?_⟩
  rw [List.mem_filter, List.mem_range, List.any_eq_true]
  constructor
  · rintro ⟨_, ⟨i, b⟩, hp, e⟩
    simp only [Bool.and_eq_true, beq_iff_eq, decide_eq_true_eq] at e
    obtain ⟨rfl, ht⟩ := e
    exact ⟨b, hp, ht⟩
  · rintro ⟨b, hb, ht⟩
    exact ⟨h _ hb, ⟨id, b⟩, hb, by simp [ht]⟩
instance (px py qx qy : Int) : DecidablePred (tkC px py qx qy) := fun b => by unfold tkC; infer_instance
instance (px py : Int) : DecidablePred (coversP px py) := fun b => inferInstance
/-- three indexes to which the same was done -/
structure Tri (w W : World) (BL : Nat) (v : Nat → Value) (F : Nat → Nat → Prop) (L : List (Nat × Bx)) : Prop where
  arr : Blk W BL 55 [v 0, v 1, v 2]
  fd : ∀ k, k < 3 → Fd W (v k) (F k) L
  ok : OkL L
  new : ∀ k, k < 3 → ∀ x, F k x → w.heap.size ≤ x
  off : ∀ k, k < 3 → ¬ F k BL
  dis : ∀ j k, j < 3 → k < 3 → j ≠ k → ∀ x, F j x → ¬ F k x
  arrNew : w.heap.size ≤ BL
  keep : Keeps (fun k => w.heap.size ≤ k) w W
section
variable {w W W' : World} {BL : Nat} {v : Nat → Value} {F : Nat → Nat → Prop} {L : List (Nat × Bx)}
theorem Tri.kd (h : Tri w W BL v F L) (k : Keeps (fun _ => False) W W') : Tri w W' BL v F L :=
  ⟨h.arr.keeps k (fun h => h), fun j hj => (h.fd j hj).kd k, h.ok, h.new, h.off, h.dis, h.arrNew, h.keep.trans (kf k)⟩
/-- the same lists, whichever index is asked -/
theorem meet_self {px py : Int} {V : List Nat} (hL : OkL L) (h : Ans L (tkC px py px py) V) : Ans L (coversP px py) V :=
  h.congr (fun id b hb => ⟨fun h => meets_self.1 h.2.2, fun h => ⟨covers_on (hL.right _ hb) h, covers_on (hL.right _ hb) h, meets_self.2 h⟩⟩)
theorem at_cross {px py qx qy : Int} {A C : List Nat} (hp : On px py) (hq : On qx qy) (hA : Ans L (coversP px py) A) (hC : Ans L (tkC px py qx qy) C) : ∀ x ∈ A, x ∈ C :=
  hA.sub hC (fun _ _ _ h => ⟨hp, hq, covers_meets h⟩)
theorem to_cross {px py qx qy : Int} {T C : List Nat} (hp : On px py) (hq : On qx qy) (hT : Ans L (coversP qx qy) T) (hC : Ans L (tkC px py qx qy) C) : ∀ x ∈ T, x ∈ C :=
  hT.sub hC (fun _ _ _ h => ⟨hp, hq, covers_meets' h⟩)
theorem ans_small {tk : Bx → Prop} {V : List Nat} (hL : OkL L) (h : Ans L tk V) : V.length ≤ 65536 := Nat.le_trans h.len hL.len
/-- told, as the list that is known -/
theorem told_ans {tk : Bx → Prop} {A V : List Nat} {base VB : Nat} (hL : OkL L) (hA : Ans L tk A) (hV : Vals base W VB V) (ha : Ans L tk V) :
    Calls Tryz.prog 12 #[.func (.func 92) #[] #[.pointer (some ⟨VB, 0, none⟩)], .int .i64 0] W fun e w' => ∃ u, e = .returned u ∧ Tree.U32s w' u A ∧ Keeps (fun _ => False) W w' := by
  obtain rfl := ha.one hA
  exact told_vals hV (ans_small hL ha)
theorem same_ans {tk : Bx → Prop} {A : List Nat} {u1 u2 : Value} (hL : OkL L) (hA : Ans L tk A) (h1 : Tree.U32s W u1 A) (h2 : Tree.U32s W u2 A) : Calls Tryz.prog 11 #[u1, u2] W (Gave (.bool true) W) := by
  have hl := ans_small hL hA
  refine (Tree.same_t u1 u2 A A W h1 h2 (by omega) (by omega)).mono ?_
  rintro e w' ⟨rfl, hk⟩
  exact ⟨by simp, hk⟩
theorem all_ans {tk tk' : Bx → Prop} {A C : List Nat} {u1 u2 : Value} (hL : OkL L) (hA : Ans L tk A) (hC : Ans L tk' C) (h1 : Tree.U32s W u1 A) (h2 : Tree.U32s W u2 C) (hs : ∀ x ∈ A, x ∈ C) : Calls Tryz.prog 15 #[u1, u2] W (Gave (.bool true) W) := by
  have hl := ans_small hL hA
  have hl2 := ans_small hL hC
  refine (Tree.all_yes u1 u2 A C W h1 h2 (by omega) (by omega) hs).mono ?_
  rintro e w' ⟨rfl, hk⟩
  exact ⟨rfl, hk⟩
theorem lat_t (x y : Int) (w : World) : Calls Tryz.prog 14 #[.agg #[.int .i32 x, .int .i32 y]] w (Gave (.bool (decide (On x y))) w) := by
  refine (inlat_t x y w).mono ?_
  rintro e w' ⟨rfl, rfl⟩
  exact ⟨rfl, (Keeps.refl _ w).alloc _⟩
end
end Fi
end Go.Proofs.YtdbpfbokfmpgcaaGreat
namespace Go.Proofs.YtdbpfbokfmpgcaaGreat
open Go.RowKit Go.Shelf
set_option linter.unusedVariables false
set_option linter.unusedSimpArgs false
set_option linter.ambiguousOpen false
attribute [local go_sem] Oper.semAt_some
namespace Fi
open Mem Gr Gs
open So (vals)
def stepF (L : List (Nat × Bx)) (x : Stp) : Int × List (Nat × Bx) := if x.do_ = 0 then putF L x.id x.b else delF L x.id
theorem OkL.step {L : List (Nat × Bx)} (h : OkL L) (x : Stp) (hid : x.id < 4294967296) : OkL (stepF L x).2 := by
  unfold stepF
  split
  · exact h.put hid x.b
  · exact h.del x.id
theorem change_any {w : World} {v : Value} {F : Nat → Prop} {L : List (Nat × Bx)} (h : Fd w v F L) (hL : OkL L) (x : Stp) (hid : x.id < 4294967296) :
    Calls Tryz.prog 13 #[v, .agg #[.int .i64 x.do_, .int .u32 (x.id : Int), .int .i32 x.b.x0, .int .i32 x.b.y0, .int .i32 x.b.x1, .int .i32 x.b.y1, .int .i32 x.px, .int .i32 x.py, .int .i32 x.qx, .int .i32 x.qy, .int .i64 x.stop]] w (DidF v F (stepF L x) w) := by
  obtain ⟨t, B, fP, fD, hC⟩ := h.chg hL
  unfold stepF
  by_cases hx : x.do_ = 0
  · rw [if_pos hx]; exact change_put hC (Keeps.refl _ _) x hx hid
  · rw [if_neg hx]; exact change_del hC (Keeps.refl _ _) x hx hid
def pick3 (f0 f1 f2 : Nat → Prop) (k : Nat) : Nat → Prop := if k = 0 then f0 else if k = 1 then f1 else f2
theorem three {p : Nat → Prop} (h0 : p 0) (h1 : p 1) (h2 : p 2) : ∀ k, k < 3 → p k := by
  intro k hk
  have : k = 0 ∨ k = 1 ∨ k = 2 := by omega
  rcases this with rfl | rfl | rfl
  · exact h0
  · exact h1
  · exact h2
section
variable {w W W1 W2 W3 : World} {BL : Nat} {v : Nat → Value} {F : Nat → Nat → Prop} {L L' : List (Nat × Bx)} {G0 G1 G2 : Nat → Prop}
/-- the three changes, one behind another -/
theorem Tri.step (h : Tri w W BL v F L) (hL' : OkL L') (f0 : Foot (F 0) G0 W W1) (d0 : Fd W1 (v 0) G0 L') (f1 : Foot (F 1) G1 W1 W2) (d1 : Fd W2 (v 1) G1 L') (f2 : Foot (F 2) G2 W2 W3) (d2 : Fd W3 (v 2) G2 L') : Tri w W3 BL v (pick3 G0 G1 G2) L' := by
  have i0 := (h.fd 0 (by omega)).inb
  have i1 := (h.fd 1 (by omega)).inb
  have i2 := (h.fd 2 (by omega)).inb
  have z0 := f0.1.size
  have z1 := f1.1.size
  have z2 := f2.1.size
  have zw := h.keep.size
  have lB := h.arr.lt
  have j0 := d0.inb
  have j1 := d1.inb
  have n01 : ∀ x, G0 x → ¬ F 1 x := fun x hx hF => (f0.2 x hx).elim (fun h0 => h.dis 0 1 (by omega) (by omega) (by omega) x h0 hF) (fun h0 => by have := i1 x hF; omega)
  have n02 : ∀ x, G0 x → ¬ F 2 x := fun x hx hF => (f0.2 x hx).elim (fun h0 => h.dis 0 2 (by omega) (by omega) (by omega) x h0 hF) (fun h0 => by have := i2 x hF; omega)
  have n12 : ∀ x, G1 x → ¬ F 2 x := fun x hx hF => (f1.2 x hx).elim (fun h0 => h.dis 1 2 (by omega) (by omega) (by omega) x h0 hF) (fun h0 => by have := i2 x hF; omega)
  have m01 : ∀ x, G0 x → ¬ G1 x := fun x hx hF => (f1.2 x hF).elim (n01 x hx) (fun h0 => by have := j0 x hx; omega)
  have m02 : ∀ x, G0 x → ¬ G2 x := fun x hx hF => (f2.2 x hF).elim (n02 x hx) (fun h0 => by have := j0 x hx; omega)
  have m12 : ∀ x, G1 x → ¬ G2 x := fun x hx hF => (f2.2 x hF).elim (n12 x hx) (fun h0 => by have := j1 x hx; omega)
  refine ⟨((h.arr.keeps f0.1 (h.off 0 (by omega))).keeps f1.1 (h.off 1 (by omega))).keeps f2.1 (h.off 2 (by omega)), three ?_ ?_ ?_, hL', three ?_ ?_ ?_, three ?_ ?_ ?_, ?_, h.arrNew, ?_⟩
  · exact (d0.keeps f1.1 n01).keeps f2.1 n02
  · exact d1.keeps f2.1 n12
  · exact d2
  · exact fun x hx => (f0.2 x hx).elim (h.new 0 (by omega) x) (fun h => by omega)
  · exact fun x hx => (f1.2 x hx).elim (h.new 1 (by omega) x) (fun h => by omega)
  · exact fun x hx => (f2.2 x hx).elim (h.new 2 (by omega) x) (fun h => by omega)
  · exact fun hx => (f0.2 _ hx).elim (h.off 0 (by omega)) (fun h => by omega)
  · exact fun hx => (f1.2 _ hx).elim (h.off 1 (by omega)) (fun h => by omega)
  · exact fun hx => (f2.2 _ hx).elim (h.off 2 (by omega)) (fun h => by omega)
  · intro j k hj hk hne x hx hy
    have hj' : j = 0 ∨ j = 1 ∨ j = 2 := by omega
    have hk' : k = 0 ∨ k = 1 ∨ k = 2 := by omega
    rcases hj' with rfl | rfl | rfl <;> rcases hk' with rfl | rfl | rfl
    · omega
    · exact m01 x hx hy
    · exact m02 x hx hy
    · exact m01 x hy hx
    · omega
    · exact m12 x hx hy
    · exact m02 x hy hx
    · exact m12 x hy hx
    · omega
  · exact ((h.keep.trans (f0.1.mono (fun x _ hx => h.new 0 (by omega) x hx))).trans (f1.1.mono (fun x _ hx => h.new 1 (by omega) x hx))).trans (f2.1.mono (fun x _ hx => h.new 2 (by omega) x hx))
end
set_option maxHeartbeats 8000000 in
set_option maxRecDepth 100000 in
theorem chg_round (w W : World) (BL BX : Nat) (v : Nat → Value) (F : Nat → Nat → Prop) (L : List (Nat × Bx)) (x : Stp) (hT : Tri w W BL v F L) (hX : Blk W BX 41 [.int .i64 x.do_, .int .u32 (x.id : Int), .int .i32 x.b.x0, .int .i32 x.b.y0, .int .i32 x.b.x1, .int .i32 x.b.y1, .int .i32 x.px, .int .i32 x.py, .int .i32 x.qx, .int .i32 x.qy, .int .i64 x.stop]) (hBX : ∀ k, k < 3 → ¬ F k BX) (hid : x.id < 4294967296)
    (hdo : x.do_ = 0 ∨ x.do_ = 1) (sv iv : Value) (N : Act → World → Prop) (R : Act → World → Prop) (a : Act) (hF : Fr a 189 [(2, sv), (7, .pointer (some ⟨BL, 0, none⟩)), (12, iv), (13, .pointer (some ⟨BX, 0, none⟩)), (17, .int .i64 0)]) : sameK.wp Tryz.prog (Outs N (fun n a' W' => n = 4 ∧ ∃ F' L', Fr a' 189 [(2, sv), (7, .pointer (some ⟨BL, 0, none⟩)), (12, iv)] ∧ Tri w W' BL v F' L') R) a W := by
  revert hF
  refine fun hF => frames189 (P := fun a => Fr a 189 [(2, sv), (7, .pointer (some ⟨BL, 0, none⟩)), (12, iv), (13, .pointer (some ⟨BX, 0, none⟩)), (17, .int .i64 0)] → sameK.wp Tryz.prog (Outs N (fun n a' W' => n = 4 ∧ ∃ F' L', Fr a' 189 [(2, sv), (7, .pointer (some ⟨BL, 0, none⟩)), (12, iv)] ∧ Tri w W' BL v F' L') R) a W) ?_ a hF.1 hF.2.1 hF
  intro u0 u1 u2 u3 u4 u5 u6 u7 u8 u9 u10 u11 u12 u13 u14 u15 u16 u17 u18 u19 u20 u21 u22 u23 u24 u25 u26 u27 u28 u29 u30 u31 u32 u33 u34 u35 u36 u37 u38 u39 u40 u41 u42 u43 u44 u45 u46 u47 u48 u49 u50 u51 u52 u53 u54 u55 u56 u57 u58 u59 u60 u61 u62 u63 u64 u65 u66 u67 u68 u69 u70 u71 u72 u73 u74 u75 u76 u77 u78 u79 u80 u81 u82 u83 u84 u85 u86 u87 u88 u89 u90 u91 u92 u93 u94 u95 u96 u97 u98 u99 u100 u101 u102 u103 u104 u105 u106 u107 u108 u109 u110 u111 u112 u113 u114 u115 u116 u117 u118 u119 u120 u121 u122 u123 u124 u125 u126 u127 u128 u129 u130 u131 u132 u133 u134 u135 u136 u137 u138 u139 u140 u141 u142 u143 u144 u145 u146 u147 u148 u149 u150 u151 u152 u153 u154 u155 u156 u157 u158 u159 u160 u161 u162 u163 u164 u165 u166 u167 u168 u169 u170 u171 u172 u173 u174 u175 u176 u177 u178 u179 u180 u181 u182 u183 u184 u185 u186 u187 u188 hF
  obtain rfl : u2 = sv := hF.at_ 2 _ (by simp)
  obtain rfl : u7 = .pointer (some ⟨BL, 0, none⟩) := hF.at_ 7 _ (by simp)
  obtain rfl : u12 = iv := hF.at_ 12 _ (by simp)
  obtain rfl : u13 = .pointer (some ⟨BX, 0, none⟩) := hF.at_ 13 _ (by simp)
  obtain rfl : u17 = .int .i64 0 := hF.at_ 17 _ (by simp)
  clear hF
  obtain ⟨c, hc⟩ : ∃ c, c = (stepF L x).1 := ⟨_, rfl⟩
  have hC : ∀ k, k < 3 → ∀ W', Fd W' (v k) (F k) L → Calls Tryz.prog 13 #[v k, .agg #[.int .i64 x.do_, .int .u32 (x.id : Int), .int .i32 x.b.x0, .int .i32 x.b.y0, .int .i32 x.b.x1, .int .i32 x.b.y1, .int .i32 x.px, .int .i32 x.py, .int .i32 x.qx, .int .i32 x.qy, .int .i64 x.stop]] W' (fun e w' => e = .returned (.int .i64 c) ∧ ∃ F', Foot (F k) F' W' w' ∧ Fd w' (v k) F' (stepF L x).2) := fun k hk W' hd => by
    rw [hc]; exact change_any hd hT.ok x hid
  have c0 := hX.cell
  have b0 := hT.arr.cell
  have HT := Lib.hid (And.intro hT (And.intro hX (And.intro hBX (hT.ok.step x hid))))
  have HC0 := Lib.hid (hC 0 (by omega) W (hT.fd 0 (by omega)))
  have HC := Lib.hid hC
  have hdo1 : ((x.do_ == 0) = true) ∨ ((x.do_ == 0) = false ∧ (x.do_ == 1) = true) := by
    rcases hdo with h | h
    · left; simp [h]
    · right; simp [h]
  clear hT hX hBX hid hdo hC hc
  conv => arg 2; whnf
  rcases hdo1 with e0 | ⟨e0, e1⟩
  all_goals
    go_wp2_with fail
    refine HC0.out.mono ?_
    rintro e w4 ⟨rfl, G0, f0, d0⟩
    have hX4 := HT.out.2.1.keeps f0.1 (HT.out.2.2.1 0 (by omega))
    have c4 := hX4.cell
    have b4 := (HT.out.1.arr.keeps f0.1 (HT.out.1.off 0 (by omega))).cell
    have HD0 := Lib.hid (And.intro f0 d0)
    have HX4 := Lib.hid hX4
    have HC1 := Lib.hid (HC.out 1 (by omega) w4 ((HT.out.1.fd 1 (by omega)).keeps f0.1 (fun y hy hz => HT.out.1.dis 1 0 (by omega) (by omega) (by omega) y hy hz)))
    clear f0 d0 hX4 c0 b0
    go_wp2_with fail
    refine HC1.out.mono ?_
    rintro e w5 ⟨rfl, G1, f1, d1⟩
    have c5 := (HX4.out.keeps f1.1 (HT.out.2.2.1 1 (by omega))).cell
    have b5 := ((HT.out.1.arr.keeps HD0.out.1.1 (HT.out.1.off 0 (by omega))).keeps f1.1 (HT.out.1.off 1 (by omega))).cell
    have HD1 := Lib.hid (And.intro f1 d1)
    have HC2 := Lib.hid (HC.out 2 (by omega) w5 (((HT.out.1.fd 2 (by omega)).keeps HD0.out.1.1 (fun y hy hz => HT.out.1.dis 2 0 (by omega) (by omega) (by omega) y hy hz)).keeps f1.1 (fun y hy hz => HT.out.1.dis 2 1 (by omega) (by omega) (by omega) y hy hz)))
    clear f1 d1 c4 b4
    go_wp2_with fail
    refine HC2.out.mono ?_
    rintro e w6 ⟨rfl, G2, f2, d2⟩
    have HD2 := Lib.hid (And.intro f2 d2)
    clear f2 d2 c5 b5
    go_wp2
    exact ⟨rfl, _, _, ⟨rfl, rfl, by simp⟩, HT.out.1.step HT.out.2.2.2 HD0.out.1 HD0.out.2 HD1.out.1 HD1.out.2 HD2.out.1 HD2.out.2⟩
set_option maxRecDepth 100000 in
theorem end_round (W : World) (BL BX : Nat) (sv iv : Value) (N : Act → World → Prop) (R : Act → World → Prop) (a : Act) (hF : Fr a 189 [(2, sv), (7, .pointer (some ⟨BL, 0, none⟩)), (12, iv), (17, .int .i64 3)]) :
    sameK.wp Tryz.prog (Outs N (fun n a' W' => n = 4 ∧ W' = W ∧ Fr a' 189 [(2, sv), (7, .pointer (some ⟨BL, 0, none⟩)), (12, iv)]) R) a W := by
  revert hF
  refine fun hF => frames189 (P := fun a => Fr a 189 [(2, sv), (7, .pointer (some ⟨BL, 0, none⟩)), (12, iv), (17, .int .i64 3)] → sameK.wp Tryz.prog (Outs N (fun n a' W' => n = 4 ∧ W' = W ∧ Fr a' 189 [(2, sv), (7, .pointer (some ⟨BL, 0, none⟩)), (12, iv)]) R) a W) ?_ a hF.1 hF.2.1 hF
  intro u0 u1 u2 u3 u4 u5 u6 u7 u8 u9 u10 u11 u12 u13 u14 u15 u16 u17 u18 u19 u20 u21 u22 u23 u24 u25 u26 u27 u28 u29 u30 u31 u32 u33 u34 u35 u36 u37 u38 u39 u40 u41 u42 u43 u44 u45 u46 u47 u48 u49 u50 u51 u52 u53 u54 u55 u56 u57 u58 u59 u60 u61 u62 u63 u64 u65 u66 u67 u68 u69 u70 u71 u72 u73 u74 u75 u76 u77 u78 u79 u80 u81 u82 u83 u84 u85 u86 u87 u88 u89 u90 u91 u92 u93 u94 u95 u96 u97 u98 u99 u100 u101 u102 u103 u104 u105 u106 u107 u108 u109 u110 u111 u112 u113 u114 u115 u116 u117 u118 u119 u120 u121 u122 u123 u124 u125 u126 u127 u128 u129 u130 u131 u132 u133 u134 u135 u136 u137 u138 u139 u140 u141 u142 u143 u144 u145 u146 u147 u148 u149 u150 u151 u152 u153 u154 u155 u156 u157 u158 u159 u160 u161 u162 u163 u164 u165 u166 u167 u168 u169 u170 u171 u172 u173 u174 u175 u176 u177 u178 u179 u180 u181 u182 u183 u184 u185 u186 u187 u188 hF
  obtain rfl : u2 = sv := hF.at_ 2 _ (by simp)
  obtain rfl : u7 = .pointer (some ⟨BL, 0, none⟩) := hF.at_ 7 _ (by simp)
  obtain rfl : u12 = iv := hF.at_ 12 _ (by simp)
  obtain rfl : u17 = .int .i64 3 := hF.at_ 17 _ (by simp)
  clear hF
  conv => arg 2; whnf
  go_wp2
  exact ⟨rfl, rfl, rfl, rfl, by simp⟩
end Fi
end Go.Proofs.YtdbpfbokfmpgcaaGreat
