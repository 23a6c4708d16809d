/-
  (*Taker).Kept: how many it tells.
-/
import Derived.Test.YtndghakagogmcaaTakeC
import Derived.Deep.RegionLaw
namespace Go.Proofs.Ytndghakagogmcaa
open Go.RowKit
set_option linter.unusedVariables false
namespace Take
open Mem
def KS (w0 w : World) (tb rb ab nx : Nat) (rs : Ring) : Prop :=
  Blk w tb 93 [.int .u64 (nx : Int), .slice (some ⟨rb, 0, none⟩) rs.length rs.length] ∧ Blk w rb 90 (ring rs) ∧
  (∃ cs, Blk w ab 40 cs ∧ cs.length = rs.length * 11) ∧ Keeps (fun _ => False) w0 w ∧ w0.heap.size ≤ ab
theorem KS.drewN {w0 w : World} {tb rb ab nx : Nat} {rs : Ring} (h : KS w0 w tb rb ab nx rs) (n : Nat) : KS w0 (w.drewN n) tb rb ab nx rs :=
  ⟨h.1.drewN _, h.2.1.drewN _, let ⟨cs, a, b⟩ := h.2.2.1; ⟨cs, a.drewN _, b⟩, h.2.2.2.1.drewN _, h.2.2.2.2⟩
noncomputable def keptBody : Code := (loops (Try.f17.body.getD .skip)).getD 0 .skip
set_option maxRecDepth 100000 in
theorem kept_exit (w0 w : World) (tb rb ab : Nat) (nx : Nat) (rs : Ring) (c i : Nat) (hn2 : nx ≤ 4611686018427387904) (hl : 0 < rs.length) (hl2 : rs.length ≤ 64) (hci : c ≤ i) (h : KS w0 w tb rb ab nx rs) (hi : rs.length ≤ i)
    (N R : Act → World → Prop) (X : Nat → Act → World → Prop) (u1 u2 u5 u6 u7 u8 u9 u10 u11 u12 u13 u14 u15 u16 u17 u18 u19 u20 u23 u24 u25 u26 u27 u28 u29 u30 u31 u32 u33 u34 u35 u36 u37 u38 u39 u40 u41 u42 u43 u44 u45 u46 u47 u48 u49 u50 u51 u52 : Value)
    (hQ : ∀ a, Fr a 53 [(0, .pointer (some ⟨tb, 0, none⟩)), (3, .slice (some ⟨ab, 0, none⟩) rs.length rs.length), (4, .int .i64 (c : Int)), (21, .int .u64 (rs.length : Int)), (22, .int .u64 (i : Int))] → X 0 a w) : keptBody.wp Try.prog (Outs N X R) ⟨#[.pointer (some ⟨tb, 0, none⟩), u1, u2, .slice (some ⟨ab, 0, none⟩) rs.length rs.length, .int .i64 (c : Int), u5, u6, u7, u8, u9, u10, u11, u12, u13, u14, u15, u16, u17, u18, u19, u20, .int .u64 (rs.length : Int), .int .u64 (i : Int), u23, u24, u25, u26, u27, u28, u29, u30, u31, u32, u33, u34, u35, u36, u37, u38, u39, u40, u41, u42, u43, u44, u45, u46, u47, u48, u49, u50, u51, u52], []⟩ w := by
  obtain ⟨hT, hR, ⟨cs, hA, hcs⟩, hK, hab⟩ := id h
  have c0 : w.cell? ⟨tb, 0, none⟩ = some (.int .u64 (nx : Int)) := hT.cell 0
  have c1 : w.cell? ⟨tb, 1, none⟩ = some (.slice (some ⟨rb, 0, none⟩) rs.length rs.length) := hT.cell 1

  have HQ := Lib.hid hQ; clear hQ
  conv => arg 2; whnf
  have hd : ¬ i < rs.length := by omega
  go_wp2
  exact HQ.out _ ⟨rfl, rfl, by simp⟩
set_option maxRecDepth 100000 in
theorem kept_none (w0 w : World) (tb rb ab : Nat) (nx : Nat) (rs : Ring) (c i : Nat) (hn2 : nx ≤ 4611686018427387904) (hl : 0 < rs.length) (hl2 : rs.length ≤ 64) (hci : c ≤ i) (h : KS w0 w tb rb ab nx rs) (hi : i < rs.length) (he : rs[(nx + i) % rs.length]? = some none)
    (N R : Act → World → Prop) (X : Nat → Act → World → Prop) (u1 u2 u5 u6 u7 u8 u9 u10 u11 u12 u13 u14 u15 u16 u17 u18 u19 u20 u23 u24 u25 u26 u27 u28 u29 u30 u31 u32 u33 u34 u35 u36 u37 u38 u39 u40 u41 u42 u43 u44 u45 u46 u47 u48 u49 u50 u51 u52 : Value)
    (hQ : ∀ a w', Fr a 53 [(0, .pointer (some ⟨tb, 0, none⟩)), (3, .slice (some ⟨ab, 0, none⟩) rs.length rs.length), (4, .int .i64 (c : Int)), (21, .int .u64 (rs.length : Int)), (22, .int .u64 ((i + 1 : Nat) : Int))] → KS w0 w' tb rb ab nx rs → N a w') : keptBody.wp Try.prog (Outs N X R) ⟨#[.pointer (some ⟨tb, 0, none⟩), u1, u2, .slice (some ⟨ab, 0, none⟩) rs.length rs.length, .int .i64 (c : Int), u5, u6, u7, u8, u9, u10, u11, u12, u13, u14, u15, u16, u17, u18, u19, u20, .int .u64 (rs.length : Int), .int .u64 (i : Int), u23, u24, u25, u26, u27, u28, u29, u30, u31, u32, u33, u34, u35, u36, u37, u38, u39, u40, u41, u42, u43, u44, u45, u46, u47, u48, u49, u50, u51, u52], []⟩ w := by
  obtain ⟨hT, hR, ⟨cs, hA, hcs⟩, hK, hab⟩ := id h
  have c0 : w.cell? ⟨tb, 0, none⟩ = some (.int .u64 (nx : Int)) := hT.cell 0
  have c1 : w.cell? ⟨tb, 1, none⟩ = some (.slice (some ⟨rb, 0, none⟩) rs.length rs.length) := hT.cell 1

  have r0 : w.cell? ⟨rb, (nx + i) % rs.length * 12, none⟩ = some (.bool false) := by
    have := Mem.flat_cell plc_length rs ((nx + i) % rs.length) 0 (by omega) none he
    rw [hR.cell]; exact this
  have HQ := Lib.hid hQ; clear hQ
  conv => arg 2; whnf
  go_wp2_with (go_at_call 40; refine (place_any tb rb rs.length (nx + i) _ (by exact c1) (by omega) hl2 hl).mono ?_; rintro e w1 ⟨rfl, k, rfl⟩)
  exact HQ.out _ _ ⟨rfl, rfl, by simp⟩ (h.drewN _)
set_option maxRecDepth 100000 in
theorem kept_some (w0 w : World) (tb rb ab : Nat) (nx : Nat) (rs : Ring) (c i : Nat) (hn2 : nx ≤ 4611686018427387904) (hl : 0 < rs.length) (hl2 : rs.length ≤ 64) (hci : c ≤ i) (h : KS w0 w tb rb ab nx rs) (hi : i < rs.length) (q : Pk) (he : rs[(nx + i) % rs.length]? = some (some q))
    (N R : Act → World → Prop) (X : Nat → Act → World → Prop) (u1 u2 u5 u6 u7 u8 u9 u10 u11 u12 u13 u14 u15 u16 u17 u18 u19 u20 u23 u24 u25 u26 u27 u28 u29 u30 u31 u32 u33 u34 u35 u36 u37 u38 u39 u40 u41 u42 u43 u44 u45 u46 u47 u48 u49 u50 u51 u52 : Value)
    (hQ : ∀ a w', Fr a 53 [(0, .pointer (some ⟨tb, 0, none⟩)), (3, .slice (some ⟨ab, 0, none⟩) rs.length rs.length), (4, .int .i64 ((c + 1 : Nat) : Int)), (21, .int .u64 (rs.length : Int)), (22, .int .u64 ((i + 1 : Nat) : Int))] → KS w0 w' tb rb ab nx rs → N a w') : keptBody.wp Try.prog (Outs N X R) ⟨#[.pointer (some ⟨tb, 0, none⟩), u1, u2, .slice (some ⟨ab, 0, none⟩) rs.length rs.length, .int .i64 (c : Int), u5, u6, u7, u8, u9, u10, u11, u12, u13, u14, u15, u16, u17, u18, u19, u20, .int .u64 (rs.length : Int), .int .u64 (i : Int), u23, u24, u25, u26, u27, u28, u29, u30, u31, u32, u33, u34, u35, u36, u37, u38, u39, u40, u41, u42, u43, u44, u45, u46, u47, u48, u49, u50, u51, u52], []⟩ w := by
  obtain ⟨hT, hR, ⟨cs, hA, hcs⟩, hK, hab⟩ := id h
  have c0 : w.cell? ⟨tb, 0, none⟩ = some (.int .u64 (nx : Int)) := hT.cell 0
  have c1 : w.cell? ⟨tb, 1, none⟩ = some (.slice (some ⟨rb, 0, none⟩) rs.length rs.length) := hT.cell 1

  have r0 : w.cell? ⟨rb, (nx + i) % rs.length * 12, none⟩ = some (.bool true) := by
    have := Mem.flat_cell plc_length rs ((nx + i) % rs.length) 0 (by omega) (some q) he
    rw [hR.cell]; exact this
  have HQ := Lib.hid hQ; clear hQ
  conv => arg 2; whnf
  go_wp2_with (go_at_call 40; refine (place_any tb rb rs.length (nx + i) _ (by exact c1) (by omega) hl2 hl).mono ?_; rintro e w1 ⟨rfl, k, rfl⟩)
  obtain ⟨q0, q1, q2, q3, q4, q5, q6, q7, q8, q9, q10⟩ := q
  obtain ⟨w1, hw1⟩ : ∃ w1, w1 = w.drewN k := ⟨_, rfl⟩
  have h' : KS w0 w1 tb rb ab nx rs := by rw [hw1]; exact h.drewN _
  rw [← hw1]
  clear hw1 c0 c1 r0 h hT hR hA hK cs hcs
  obtain ⟨hT, hR, ⟨cs, hA, hcs⟩, hK, hab⟩ := id h'
  have r1 : w1.cell? ⟨rb, (nx + i) % rs.length * 12 + 1, none⟩ = some (.int .i64 q0) := by
    have := Mem.flat_cell plc_length rs ((nx + i) % rs.length) 1 (by omega) _ he
    rw [hR.cell]; exact this
  have r2 : w1.cell? ⟨rb, (nx + i) % rs.length * 12 + 2, none⟩ = some (.int .u32 q1) := by
    have := Mem.flat_cell plc_length rs ((nx + i) % rs.length) 2 (by omega) _ he
    rw [hR.cell]; exact this
  have r3 : w1.cell? ⟨rb, (nx + i) % rs.length * 12 + 3, none⟩ = some (.int .u64 (q2 : Int)) := by
    have := Mem.flat_cell plc_length rs ((nx + i) % rs.length) 3 (by omega) _ he
    rw [hR.cell]; exact this
  have r4 : w1.cell? ⟨rb, (nx + i) % rs.length * 12 + 4, none⟩ = some (.int .u8 q3) := by
    have := Mem.flat_cell plc_length rs ((nx + i) % rs.length) 4 (by omega) _ he
    rw [hR.cell]; exact this
  have r5 : w1.cell? ⟨rb, (nx + i) % rs.length * 12 + 5, none⟩ = some (.int .u32 q4) := by
    have := Mem.flat_cell plc_length rs ((nx + i) % rs.length) 5 (by omega) _ he
    rw [hR.cell]; exact this
  have r6 : w1.cell? ⟨rb, (nx + i) % rs.length * 12 + 6, none⟩ = some (.int .u32 q5) := by
    have := Mem.flat_cell plc_length rs ((nx + i) % rs.length) 6 (by omega) _ he
    rw [hR.cell]; exact this
  have r7 : w1.cell? ⟨rb, (nx + i) % rs.length * 12 + 7, none⟩ = some (.int .u32 q6) := by
    have := Mem.flat_cell plc_length rs ((nx + i) % rs.length) 7 (by omega) _ he
    rw [hR.cell]; exact this
  have r8 : w1.cell? ⟨rb, (nx + i) % rs.length * 12 + 8, none⟩ = some (.int .i32 q7) := by
    have := Mem.flat_cell plc_length rs ((nx + i) % rs.length) 8 (by omega) _ he
    rw [hR.cell]; exact this
  have r9 : w1.cell? ⟨rb, (nx + i) % rs.length * 12 + 9, none⟩ = some (.int .i32 q8) := by
    have := Mem.flat_cell plc_length rs ((nx + i) % rs.length) 9 (by omega) _ he
    rw [hR.cell]; exact this
  have r10 : w1.cell? ⟨rb, (nx + i) % rs.length * 12 + 10, none⟩ = some (.int .u32 q9) := by
    have := Mem.flat_cell plc_length rs ((nx + i) % rs.length) 10 (by omega) _ he
    rw [hR.cell]; exact this
  have r11 : w1.cell? ⟨rb, (nx + i) % rs.length * 12 + 11, none⟩ = some (.float .f64 q10) := by
    have := Mem.flat_cell plc_length rs ((nx + i) % rs.length) 11 (by omega) _ he
    rw [hR.cell]; exact this
  have hci' : ((c : Int)) ≤ rs.length := by omega
  have hcn : ¬ rs.length = c := by omega
  have hwr : IntKind.i64.wrap ((c : Int) + 1) = (c : Int) + 1 := IntWalk.i64_in _ (by omega)
  go_region_law (first
    | (refine step_copy_blk rfl (.tmp 40) (.tmp 45) 28 28 rfl 40 11 1 Try.underlying28 (by kernel_rfl) ab (c * 11) (rs.length - c) (rs.length - c) ⟨w1.heap.size, 0, none⟩ 1 1 rfl rfl cs 40 #[.int .i64 q0, .int .u32 q1, .int .u64 (q2 : Int), .int .u8 q3, .int .u32 q4, .int .u32 q5, .int .u32 q6, .int .i32 q7, .int .i32 q8, .int .u32 q9, .float .f64 q10].toList (by exact hA.alloc _) (by show min 1 (rs.length - c) = 1; omega) rfl (by exact Mem.news_new _ _ _) (by simp; omega) (by simp [Value.oneCell']) ?_
       intro w2 hA2 hg2))
  have hbT := hT.lt
  have hbR := hR.lt
  have hz := hK.size
  have hneT : tb ≠ ab := Blk.ne_ hT hA (by decide)
  have hneR : rb ≠ ab := Blk.ne_ hR hA (by decide)
  have hT2 := (hT.alloc (.cells #[.int .i64 q0, .int .u32 q1, .int .u64 (q2 : Int), .int .u8 q3, .int .u32 q4, .int .u32 q5, .int .u32 q6, .int .i32 q7, .int .i32 q8, .int .u32 q9, .float .f64 q10] 40)).drew.grown hg2 (by simpa using hneT)
  have hR2 := (hR.alloc (.cells #[.int .i64 q0, .int .u32 q1, .int .u64 (q2 : Int), .int .u8 q3, .int .u32 q4, .int .u32 q5, .int .u32 q6, .int .i32 q7, .int .i32 q8, .int .u32 q9, .float .f64 q10] 40)).drew.grown hg2 (by simpa using hneR)
  have hK2 := ((hK.alloc (.cells #[.int .i64 q0, .int .u32 q1, .int .u64 (q2 : Int), .int .u8 q3, .int .u32 q4, .int .u32 q5, .int .u32 q6, .int .i32 q7, .int .i32 q8, .int .u32 q9, .float .f64 q10] 40)).drew).grown hg2 (fun k hk e => by injection e with e; omega)
  have H2 := Lib.hid (show KS w0 w2 tb rb ab nx rs from ⟨hT2, hR2, ⟨_, hA2, by simp; omega⟩, hK2, hab⟩)
  clear hT2 hR2 hK2 hA2 hg2 h' hT hR hA hK hcs
  go_wp2
  refine HQ.out _ _ ⟨rfl, rfl, ?_⟩ H2.out
  simp
def cnt (nx : Nat) (rs : Ring) : Nat → Nat
  | 0 => 0
  | i + 1 => cnt nx rs i + match rs[(nx + i) % rs.length]? with
    | some (some _) => 1
    | _ => 0
theorem cnt_le (nx : Nat) (rs : Ring) : ∀ i, cnt nx rs i ≤ i
  | 0 => Nat.le_refl _
  | i + 1 => by
    have := cnt_le nx rs i
    unfold cnt
    split <;> omega
theorem cnt_lt (nx : Nat) (rs : Ring) (h : rs[nx % rs.length]? = some none) : ∀ i, cnt nx rs (i + 1) ≤ i
  | 0 => by simp [cnt, h]
  | i + 1 => by
    have := cnt_lt nx rs h i
    rw [cnt]
    split <;> omega
set_option maxRecDepth 100000 in
theorem kept_any (tb rb nx : Nat) (rs : Ring) (w : World) (hn2 : nx ≤ 2305843009213693952) (hl : 0 < rs.length) (hl2 : rs.length ≤ 64)
    (hT : Blk w tb 93 [.int .u64 (nx : Int), .slice (some ⟨rb, 0, none⟩) rs.length rs.length]) (hR : Blk w rb 90 (ring rs)) :
    Calls Try.prog 17 #[.pointer (some ⟨tb, 0, none⟩)] w fun e w' => (∃ a c, e = .returned (.slice a (cnt nx rs rs.length) c)) ∧ Keeps (fun _ => False) w w' := by
  have c1 : w.cell? ⟨tb, 1, none⟩ = some (.slice (some ⟨rb, 0, none⟩) rs.length rs.length) := hT.cell 1
  have hbT := hT.lt
  have hbR := hR.lt
  obtain ⟨i0, hi0, hz0, hz1, hz2⟩ := info_parts pkInfo
  have hmk := fun W => run_make_rowN (P := Try.prog) 28 40 i0 _ 11 64 Try.underlying28 hi0 hz0 hz1 hz2 .i64 .i64 rs.length rs.length (Nat.le_refl _) (by omega) (by omega) W
  have hS : KS w (w.alloc (.cells (madeCells (Value.agg zpk.cells.toArray).cells (rs.length * 11)) 40)) tb rb w.heap.size nx rs :=
    ⟨hT.alloc _, hR.alloc _, ⟨(madeCells (Value.agg zpk.cells.toArray).cells (rs.length * 11)).toList, by simpa using Blk.new w 40 (madeCells (Value.agg zpk.cells.toArray).cells (rs.length * 11)).toList, by rw [Array.length_toList, size_madeCells]⟩, (Keeps.refl _ w).alloc _, Nat.le_refl _⟩
  have HS := Lib.hid hS; clear hS
  clear hi0 hz0 hz1 hz2
  go_enter Try.func17, Try.ntmps17
  go_wp2_with (go_at_call 38; refine (live_any tb rb rs.length _ c1 hl).mono ?_; rintro e w1 ⟨rfl, rfl⟩)
  refine wp_loop_ghost (fun m a w' => ∃ i, m = rs.length - i ∧ i ≤ rs.length ∧ Fr a 53 [(0, .pointer (some ⟨tb, 0, none⟩)), (3, .slice (some ⟨w.heap.size, 0, none⟩) rs.length rs.length), (4, .int .i64 (cnt nx rs i : Int)), (21, .int .u64 (rs.length : Int)), (22, .int .u64 (i : Int))] ∧ KS w w' tb rb w.heap.size nx rs) rs.length ?_ ?_
  · exact ⟨0, by omega, by omega, ⟨rfl, rfl, by simp [cnt]⟩, HS.out⟩
  · rintro m a w' ⟨i, rfl, hi, hF, hS⟩
    have hcl := cnt_le nx rs i
    obtain ⟨u0, u1, u2, u3, u4, u5, u6, u7, u8, u9, u10, u11, u12, u13, u14, u15, u16, u17, u18, u19, u20, u21, u22, u23, u24, u25, u26, u27, u28, u29, u30, u31, u32, u33, u34, u35, u36, u37, u38, u39, u40, u41, u42, u43, u44, u45, u46, u47, u48, u49, u50, u51, u52, rfl⟩ := fr53 hF
    obtain rfl : u0 = .pointer (some ⟨tb, 0, none⟩) := hF.at_ 0 _ (by simp)
    obtain rfl : u3 = .slice (some ⟨w.heap.size, 0, none⟩) rs.length rs.length := hF.at_ 3 _ (by simp)
    obtain rfl : u4 = .int .i64 (cnt nx rs i : Int) := hF.at_ 4 _ (by simp)
    obtain rfl : u21 = .int .u64 (rs.length : Int) := hF.at_ 21 _ (by simp)
    obtain rfl : u22 = .int .u64 (i : Int) := hF.at_ 22 _ (by simp)
    by_cases hlt : i < rs.length
    · have hx : (nx + i) % rs.length < rs.length := Nat.mod_lt _ hl
      rcases he : rs[(nx + i) % rs.length]? with _ | (_ | q)
      · rw [List.getElem?_eq_none_iff] at he; omega
      · refine wp_mono (kept_none w w' tb rb w.heap.size nx rs (cnt nx rs i) i (by omega) hl hl2 hcl hS hlt he (fun a' w'' => Fr a' 53 [(0, .pointer (some ⟨tb, 0, none⟩)), (3, .slice (some ⟨w.heap.size, 0, none⟩) rs.length rs.length), (4, .int .i64 (cnt nx rs i : Int)), (21, .int .u64 (rs.length : Int)), (22, .int .u64 ((i + 1 : Nat) : Int))] ∧ KS w w'' tb rb w.heap.size nx rs) (fun _ _ => False) (fun _ _ _ => False) _ _ _ _ _ _ _ _ _ _ _ _ _ _ _ _ _ _ _ _ _ _ _ _ _ _ _ _ _ _ _ _ _ _ _ _ _ _ _ _ _ _ _ _ _ _ _ _ (fun a' w'' h1 h2 => ⟨h1, h2⟩)) ?_
        refine Outs.mono ?_ (fun _ _ _ h => h.elim) (fun _ _ h => h.elim)
        rintro a' w'' ⟨h1, h2⟩
        exact ⟨_, by omega, i + 1, rfl, by omega, by have e : cnt nx rs (i + 1) = cnt nx rs i := by simp [cnt, he]
                                                     rw [e]; exact h1, h2⟩
      · refine wp_mono (kept_some w w' tb rb w.heap.size nx rs (cnt nx rs i) i (by omega) hl hl2 hcl hS hlt q he (fun a' w'' => Fr a' 53 [(0, .pointer (some ⟨tb, 0, none⟩)), (3, .slice (some ⟨w.heap.size, 0, none⟩) rs.length rs.length), (4, .int .i64 ((cnt nx rs i + 1 : Nat) : Int)), (21, .int .u64 (rs.length : Int)), (22, .int .u64 ((i + 1 : Nat) : Int))] ∧ KS w w'' tb rb w.heap.size nx rs) (fun _ _ => False) (fun _ _ _ => False) _ _ _ _ _ _ _ _ _ _ _ _ _ _ _ _ _ _ _ _ _ _ _ _ _ _ _ _ _ _ _ _ _ _ _ _ _ _ _ _ _ _ _ _ _ _ _ _ (fun a' w'' h1 h2 => ⟨h1, h2⟩)) ?_
        refine Outs.mono ?_ (fun _ _ _ h => h.elim) (fun _ _ h => h.elim)
        rintro a' w'' ⟨h1, h2⟩
        exact ⟨_, by omega, i + 1, rfl, by omega, by have e : cnt nx rs (i + 1) = cnt nx rs i + 1 := by simp [cnt, he]
                                                     rw [e]; exact h1, h2⟩
    · obtain rfl : i = rs.length := by omega
      refine wp_mono (kept_exit w w' tb rb w.heap.size nx rs (cnt nx rs rs.length) rs.length (by omega) hl hl2 hcl hS (Nat.le_refl _) (fun _ _ => False) (fun _ _ => False) (fun n a' w'' => n = 0 ∧ w'' = w' ∧ Fr a' 53 [(0, .pointer (some ⟨tb, 0, none⟩)), (3, .slice (some ⟨w.heap.size, 0, none⟩) rs.length rs.length), (4, .int .i64 (cnt nx rs rs.length : Int)), (21, .int .u64 (rs.length : Int)), (22, .int .u64 (rs.length : Int))]) _ _ _ _ _ _ _ _ _ _ _ _ _ _ _ _ _ _ _ _ _ _ _ _ _ _ _ _ _ _ _ _ _ _ _ _ _ _ _ _ _ _ _ _ _ _ _ _ (fun a' h1 => ⟨rfl, rfl, h1⟩)) ?_
      refine Outs.mono (fun _ _ h => h.elim) ?_ (fun _ _ h => h.elim)
      rintro n a' w'' ⟨rfl, rfl, hF'⟩
      obtain ⟨v0, v1, v2, v3, v4, v5, v6, v7, v8, v9, v10, v11, v12, v13, v14, v15, v16, v17, v18, v19, v20, v21, v22, v23, v24, v25, v26, v27, v28, v29, v30, v31, v32, v33, v34, v35, v36, v37, v38, v39, v40, v41, v42, v43, v44, v45, v46, v47, v48, v49, v50, v51, v52, rfl⟩ := fr53 hF'
      obtain rfl : v3 = .slice (some ⟨w.heap.size, 0, none⟩) rs.length rs.length := hF'.at_ 3 _ (by simp)
      obtain rfl : v4 = .int .i64 (cnt nx rs rs.length : Int) := hF'.at_ 4 _ (by simp)
      go_wp2
      go_ret
      exact ⟨⟨some ⟨w.heap.size, 0, none⟩, cnt nx rs rs.length, rfl⟩, hS.2.2.2.1⟩
end Take
end Go.Proofs.Ytndghakagogmcaa
