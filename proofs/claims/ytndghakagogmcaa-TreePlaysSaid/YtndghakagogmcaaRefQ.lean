/-
  RefQ: TreePlays: one round.
-/
import Derived.Test.YtndghakagogmcaaRefP
namespace Go.Proofs.Ytndghakagogmcaa
open Go.RowKit Go.Shelf
set_option linter.unusedVariables false
set_option linter.unusedSimpArgs false
attribute [local go_sem] Oper.semAt_some
namespace Mem
section
variable {F : Fence} {n : Nat} {P : Program} {ops : Array Oper} {Q : Exit → Act → World → Prop} {md : Region.Mode} {S S' : World → Prop}
theorem anyHeld_weaken (h : ∀ w, S' w → S w) : ∀ (fuel : Nat) (listed : Array Bool) (a : Act) (w : World), anyHeld F n P md ops Q S' fuel listed a w → anyHeld F n P md ops Q S fuel listed a w
  | 0, _, _, _, H => H
  | fuel + 1, _, _, _, H => ⟨H.1, fun i hi => wpOpIn_mono (fun a' w' h' => ⟨h _ h'.1, anyHeld_weaken h fuel _ a' w' h'.2⟩) (H.2 i hi)⟩
end
end Mem
namespace Tree
open Mem BT
theorem frames86 {P : Act → Prop} (hP : ∀ u0 u1 u2 u3 u4 u5 u6 u7 u8 u9 u10 u11 u12 u13 u14 u15 u16 u17 u18 u19 u20 u21 u22 u23 u24 u25 u26 u27 u28 u29 u30 u31 u32 u33 u34 u35 u36 u37 u38 u39 u40 u41 u42 u43 u44 u45 u46 u47 u48 u49 u50 u51 u52 u53 u54 u55 u56 u57 u58 u59 u60 u61 u62 u63 u64 u65 u66 u67 u68 u69 u70 u71 u72 u73 u74 u75 u76 u77 u78 u79 u80 u81 u82 u83 u84 u85 : Value, P ⟨#[u0, u1, u2, u3, u4, u5, u6, u7, u8, u9, u10, u11, u12, u13, u14, u15, u16, u17, u18, u19, u20, u21, u22, u23, u24, u25, u26, u27, u28, u29, u30, u31, u32, u33, u34, u35, u36, u37, u38, u39, u40, u41, u42, u43, u44, u45, u46, u47, u48, u49, u50, u51, u52, u53, u54, u55, u56, u57, u58, u59, u60, u61, u62, u63, u64, u65, u66, u67, u68, u69, u70, u71, u72, u73, u74, u75, u76, u77, u78, u79, u80, u81, u82, u83, u84, u85], []⟩) : ∀ a : Act, a.tmps.size = 86 → a.defers = [] → P a := by
  rintro ⟨⟨t⟩, d⟩ h1 h2
  simp only [List.size_toArray] at h1 h2
  subst h2
  have h := unroll t 86 h1
  have e : (List.range 86).map (fun i => t.getD i undef) = [t.getD 0 undef, t.getD 1 undef, t.getD 2 undef, t.getD 3 undef, t.getD 4 undef, t.getD 5 undef, t.getD 6 undef, t.getD 7 undef, t.getD 8 undef, t.getD 9 undef, t.getD 10 undef, t.getD 11 undef, t.getD 12 undef, t.getD 13 undef, t.getD 14 undef, t.getD 15 undef, t.getD 16 undef, t.getD 17 undef, t.getD 18 undef, t.getD 19 undef, t.getD 20 undef, t.getD 21 undef, t.getD 22 undef, t.getD 23 undef, t.getD 24 undef, t.getD 25 undef, t.getD 26 undef, t.getD 27 undef, t.getD 28 undef, t.getD 29 undef, t.getD 30 undef, t.getD 31 undef, t.getD 32 undef, t.getD 33 undef, t.getD 34 undef, t.getD 35 undef, t.getD 36 undef, t.getD 37 undef, t.getD 38 undef, t.getD 39 undef, t.getD 40 undef, t.getD 41 undef, t.getD 42 undef, t.getD 43 undef, t.getD 44 undef, t.getD 45 undef, t.getD 46 undef, t.getD 47 undef, t.getD 48 undef, t.getD 49 undef, t.getD 50 undef, t.getD 51 undef, t.getD 52 undef, t.getD 53 undef, t.getD 54 undef, t.getD 55 undef, t.getD 56 undef, t.getD 57 undef, t.getD 58 undef, t.getD 59 undef, t.getD 60 undef, t.getD 61 undef, t.getD 62 undef, t.getD 63 undef, t.getD 64 undef, t.getD 65 undef, t.getD 66 undef, t.getD 67 undef, t.getD 68 undef, t.getD 69 undef, t.getD 70 undef, t.getD 71 undef, t.getD 72 undef, t.getD 73 undef, t.getD 74 undef, t.getD 75 undef, t.getD 76 undef, t.getD 77 undef, t.getD 78 undef, t.getD 79 undef, t.getD 80 undef, t.getD 81 undef, t.getD 82 undef, t.getD 83 undef, t.getD 84 undef, t.getD 85 undef] := rfl
  exact Eq.mpr (congrArg (fun l : List Value => P ⟨⟨l⟩, []⟩) (h.trans e)) (hP (t.getD 0 undef) (t.getD 1 undef) (t.getD 2 undef) (t.getD 3 undef) (t.getD 4 undef) (t.getD 5 undef) (t.getD 6 undef) (t.getD 7 undef) (t.getD 8 undef) (t.getD 9 undef) (t.getD 10 undef) (t.getD 11 undef) (t.getD 12 undef) (t.getD 13 undef) (t.getD 14 undef) (t.getD 15 undef) (t.getD 16 undef) (t.getD 17 undef) (t.getD 18 undef) (t.getD 19 undef) (t.getD 20 undef) (t.getD 21 undef) (t.getD 22 undef) (t.getD 23 undef) (t.getD 24 undef) (t.getD 25 undef) (t.getD 26 undef) (t.getD 27 undef) (t.getD 28 undef) (t.getD 29 undef) (t.getD 30 undef) (t.getD 31 undef) (t.getD 32 undef) (t.getD 33 undef) (t.getD 34 undef) (t.getD 35 undef) (t.getD 36 undef) (t.getD 37 undef) (t.getD 38 undef) (t.getD 39 undef) (t.getD 40 undef) (t.getD 41 undef) (t.getD 42 undef) (t.getD 43 undef) (t.getD 44 undef) (t.getD 45 undef) (t.getD 46 undef) (t.getD 47 undef) (t.getD 48 undef) (t.getD 49 undef) (t.getD 50 undef) (t.getD 51 undef) (t.getD 52 undef) (t.getD 53 undef) (t.getD 54 undef) (t.getD 55 undef) (t.getD 56 undef) (t.getD 57 undef) (t.getD 58 undef) (t.getD 59 undef) (t.getD 60 undef) (t.getD 61 undef) (t.getD 62 undef) (t.getD 63 undef) (t.getD 64 undef) (t.getD 65 undef) (t.getD 66 undef) (t.getD 67 undef) (t.getD 68 undef) (t.getD 69 undef) (t.getD 70 undef) (t.getD 71 undef) (t.getD 72 undef) (t.getD 73 undef) (t.getD 74 undef) (t.getD 75 undef) (t.getD 76 undef) (t.getD 77 undef) (t.getD 78 undef) (t.getD 79 undef) (t.getD 80 undef) (t.getD 81 undef) (t.getD 82 undef) (t.getD 83 undef) (t.getD 84 undef) (t.getD 85 undef))
structure Stp where
  k : Int
  id : Nat
  b : Bx
  px : Int
  py : Int
  qx : Int
  qy : Int
  n : Int
def stCells (s : Stp) : List Value := [.int .i64 s.k, .int .u32 (s.id : Int), .int .i32 s.b.x0, .int .i32 s.b.y0, .int .i32 s.b.x1, .int .i32 s.b.y1, .int .i32 s.px, .int .i32 s.py, .int .i32 s.qx, .int .i32 s.qy, .int .i64 s.n]
def RowsS (w : World) (v : Value) (l : List Stp) : Prop :=
  ∃ a c, v = .slice a l.length c ∧ (∀ s ∈ l, El32 (s.id, s.b)) ∧ ∀ i s, l[i]? = some s → ∃ b off, a = some ⟨b, off, none⟩ ∧ b < w.heap.size ∧ ∀ j u, (stCells s)[j]? = some u → w.cell? ⟨b, off + i * 11 + j, none⟩ = some u
def Old (w : World) (k : Nat) : Prop := k < w.heap.size
noncomputable def playsL : Code := (loops (Try.f12.body.getD .skip)).getD 0 .skip
theorem ps_depth {Far : Nat → Prop} {V W : World} {T R : Nat} {L1 L2 : List (Nat × Bx)} (h : PairSt Far V W T R L1 L2) :
    Calls Try.prog 30 #[.pointer (some ⟨T, 0, none⟩)] W fun e w' => (∃ d : Int, e = .returned (.int .i64 d) ∧ 0 ≤ d ∧ d ≤ 1000 ∧ (d = 0 ↔ L1 = []) ∧ ∀ n : Nat, L1.length < 2 ^ n → d ≤ 2 * n) ∧ W = w' := by
  obtain ⟨S, hT⟩ := h.tree
  exact depth_t T S L1 W hT
def PlaysN (w : World) (T R lb off len lc : Nat) (i : Nat) (a : Act) (W : World) : Prop := Fr a 86 [(0, .slice (some ⟨lb, off, none⟩) len lc), (3, .pointer (some ⟨T, 0, none⟩)), (4, .pointer (some ⟨R, 0, none⟩)), (5, .int .i64 ((i + 1 : Nat) : Int))] ∧ ∃ L', PairSt (Old w) w W T R L' L'
set_option maxHeartbeats 8000000 in
set_option maxRecDepth 100000 in
theorem plays_go (w W : World) (T R lb off len lc i : Nat) (L : List (Nat × Bx)) (s : Stp) (hP : PairSt (Old w) w W T R L L) (hs : El32 (s.id, s.b)) (hlb : lb < w.heap.size) (hc : ∀ j u, (stCells s)[j]? = some u → w.cell? ⟨lb, off + i * 11 + j, none⟩ = some u) (hi : i < len) (hlen : (len : Int) ≤ 4096)
    (a : Act) (hF : Fr a 86 [(0, .slice (some ⟨lb, off, none⟩) len lc), (3, .pointer (some ⟨T, 0, none⟩)), (4, .pointer (some ⟨R, 0, none⟩)), (5, .int .i64 (i : Int))]) :
    playsL.wp Try.prog (Outs (PlaysN w T R lb off len lc i) (fun _ _ _ => False) (fun _ _ => False)) a W := by
  revert hF
  refine fun hF => frames86 (P := fun a => Fr a 86 [(0, .slice (some ⟨lb, off, none⟩) len lc), (3, .pointer (some ⟨T, 0, none⟩)), (4, .pointer (some ⟨R, 0, none⟩)), (5, .int .i64 (i : Int))] → playsL.wp Try.prog (Outs (PlaysN w T R lb off len lc i) (fun _ _ _ => False) (fun _ _ => False)) a W) ?_ a hF.1 hF.2.1 hF
  intro u0 u1 u2 u3 u4 u5 u6 u7 u8 u9 u10 u11 u12 u13 u14 u15 u16 u17 u18 u19 u20 u21 u22 u23 u24 u25 u26 u27 u28 u29 u30 u31 u32 u33 u34 u35 u36 u37 u38 u39 u40 u41 u42 u43 u44 u45 u46 u47 u48 u49 u50 u51 u52 u53 u54 u55 u56 u57 u58 u59 u60 u61 u62 u63 u64 u65 u66 u67 u68 u69 u70 u71 u72 u73 u74 u75 u76 u77 u78 u79 u80 u81 u82 u83 u84 u85 hF
  obtain rfl : u0 = .slice (some ⟨lb, off, none⟩) len lc := hF.at_ 0 _ (by simp)
  obtain rfl : u3 = .pointer (some ⟨T, 0, none⟩) := hF.at_ 3 _ (by simp)
  obtain rfl : u4 = .pointer (some ⟨R, 0, none⟩) := hF.at_ 4 _ (by simp)
  obtain rfl : u5 = .int .i64 (i : Int) := hF.at_ 5 _ (by simp)
  clear hF
  have hrow : ∀ W', Keeps (fun k => ¬ Old w k) w W' → W'.cell? ⟨lb, off + i * 11, none⟩ = some (.int .i64 s.k) ∧ W'.cell? ⟨lb, off + i * 11 + 1, none⟩ = some (.int .u32 (s.id : Int)) ∧ W'.cell? ⟨lb, off + i * 11 + 2, none⟩ = some (.int .i32 s.b.x0) ∧ W'.cell? ⟨lb, off + i * 11 + 3, none⟩ = some (.int .i32 s.b.y0) ∧ W'.cell? ⟨lb, off + i * 11 + 4, none⟩ = some (.int .i32 s.b.x1) ∧ W'.cell? ⟨lb, off + i * 11 + 5, none⟩ = some (.int .i32 s.b.y1) ∧ W'.cell? ⟨lb, off + i * 11 + 6, none⟩ = some (.int .i32 s.px) ∧ W'.cell? ⟨lb, off + i * 11 + 7, none⟩ = some (.int .i32 s.py) ∧ W'.cell? ⟨lb, off + i * 11 + 8, none⟩ = some (.int .i32 s.qx) ∧ W'.cell? ⟨lb, off + i * 11 + 9, none⟩ = some (.int .i32 s.qy) ∧ W'.cell? ⟨lb, off + i * 11 + 10, none⟩ = some (.int .i64 s.n) := fun W' hk => by
    have r := fun j u hj => hk.cell (p := ⟨lb, off + i * 11 + j, none⟩) (hc j u hj) (fun h => h hlb)
    exact ⟨r 0 _ rfl, r 1 _ rfl, r 2 _ rfl, r 3 _ rfl, r 4 _ rfl, r 5 _ rfl, r 6 _ rfl, r 7 _ rfl, r 8 _ rfl, r 9 _ rfl, r 10 _ rfl⟩
  have hiI : (i : Int) < len := by omega
  have hi0 : (0 : Int) ≤ i := by omega
  have hS1 := hrow W.drew hP.1.drew
  have HROW := Lib.hid hrow
  have HP := Lib.hid hP
  have HS := Lib.hid hs
  have hdec : True := trivial
  clear hP hs hc hrow
  refine (wpIn_wide (n := 9)).1 ?_
  conv => arg 4; whnf
  gi_wp2
  refine region_heldIn (fun W' => W'.cell? ⟨lb, off + i * 11, none⟩ = some (.int .i64 s.k) ∧ W'.cell? ⟨lb, off + i * 11 + 1, none⟩ = some (.int .u32 (s.id : Int)) ∧ W'.cell? ⟨lb, off + i * 11 + 2, none⟩ = some (.int .i32 s.b.x0) ∧ W'.cell? ⟨lb, off + i * 11 + 3, none⟩ = some (.int .i32 s.b.y0) ∧ W'.cell? ⟨lb, off + i * 11 + 4, none⟩ = some (.int .i32 s.b.x1) ∧ W'.cell? ⟨lb, off + i * 11 + 5, none⟩ = some (.int .i32 s.b.y1) ∧ W'.cell? ⟨lb, off + i * 11 + 6, none⟩ = some (.int .i32 s.px) ∧ W'.cell? ⟨lb, off + i * 11 + 7, none⟩ = some (.int .i32 s.py) ∧ W'.cell? ⟨lb, off + i * 11 + 8, none⟩ = some (.int .i32 s.qx) ∧ W'.cell? ⟨lb, off + i * 11 + 9, none⟩ = some (.int .i32 s.qy) ∧ W'.cell? ⟨lb, off + i * 11 + 10, none⟩ = some (.int .i64 s.n)) (by kernel_rfl) ?_
  (refine anyHeld_take 0 (v := ?_) (by kernel_rfl) rfl (by kernel_rfl) (by kernel_rfl) (by kernel_rfl) (fun _ _ _ h => h) ⟨Or.inl ⟨by rfl, ?_⟩, fun _ _ _ => trivial⟩ (by with_reducible assumption) ?_; rotate_left; (focus (rintro w ⟨q0, q1, q2, q3, q4, q5, q6, q7, q8, q9, q10⟩; go_simp; (try simp only [hdec]); try with_reducible rfl))); simp only [Act.put, List.getElem_toArray, List.getElem_cons_succ, List.getElem_cons_zero, List.setIfInBounds_toArray, List.set_cons_zero, List.set_cons_succ]
  (refine anyHeld_take 1 (v := ?_) (by kernel_rfl) rfl (by kernel_rfl) (by kernel_rfl) (by kernel_rfl) (fun _ _ _ h => h) ⟨Or.inl ⟨by rfl, ?_⟩, fun _ _ _ => trivial⟩ (by with_reducible assumption) ?_; rotate_left; (focus (rintro w ⟨q0, q1, q2, q3, q4, q5, q6, q7, q8, q9, q10⟩; go_simp; (try simp only [hdec]); try with_reducible rfl))); simp only [Act.put, List.getElem_toArray, List.getElem_cons_succ, List.getElem_cons_zero, List.setIfInBounds_toArray, List.set_cons_zero, List.set_cons_succ]
  (refine anyHeld_take 2 (v := ?_) (by kernel_rfl) rfl (by kernel_rfl) (by kernel_rfl) (by kernel_rfl) (fun _ _ _ h => h) ⟨Or.inl ⟨by rfl, ?_⟩, fun _ _ _ => trivial⟩ (by with_reducible assumption) ?_; rotate_left; (focus (rintro w ⟨q0, q1, q2, q3, q4, q5, q6, q7, q8, q9, q10⟩; go_simp; (try simp only [hdec]); try with_reducible rfl))); simp only [Act.put, List.getElem_toArray, List.getElem_cons_succ, List.getElem_cons_zero, List.setIfInBounds_toArray, List.set_cons_zero, List.set_cons_succ]
  (refine anyHeld_take 3 (v := ?_) (by kernel_rfl) rfl (by kernel_rfl) (by kernel_rfl) (by kernel_rfl) (fun _ _ _ h => h) ⟨Or.inl ⟨by rfl, ?_⟩, fun _ _ _ => trivial⟩ (by with_reducible assumption) ?_; rotate_left; (focus (rintro w ⟨q0, q1, q2, q3, q4, q5, q6, q7, q8, q9, q10⟩; go_simp; (try simp only [hdec]); try with_reducible rfl))); simp only [Act.put, List.getElem_toArray, List.getElem_cons_succ, List.getElem_cons_zero, List.setIfInBounds_toArray, List.set_cons_zero, List.set_cons_succ]
  (refine anyHeld_take 4 (v := ?_) (by kernel_rfl) rfl (by kernel_rfl) (by kernel_rfl) (by kernel_rfl) (fun _ _ _ h => h) ⟨Or.inl ⟨by rfl, ?_⟩, fun _ _ _ => trivial⟩ (by with_reducible assumption) ?_; rotate_left; (focus (rintro w ⟨q0, q1, q2, q3, q4, q5, q6, q7, q8, q9, q10⟩; go_simp; (try simp only [hdec]); try with_reducible rfl))); simp only [Act.put, List.getElem_toArray, List.getElem_cons_succ, List.getElem_cons_zero, List.setIfInBounds_toArray, List.set_cons_zero, List.set_cons_succ]
  (refine anyHeld_take 5 (v := ?_) (by kernel_rfl) rfl (by kernel_rfl) (by kernel_rfl) (by kernel_rfl) (fun _ _ _ h => h) ⟨Or.inl ⟨by rfl, ?_⟩, fun _ _ _ => trivial⟩ (by with_reducible assumption) ?_; rotate_left; (focus (rintro w ⟨q0, q1, q2, q3, q4, q5, q6, q7, q8, q9, q10⟩; go_simp; (try simp only [hdec]); try with_reducible rfl))); simp only [Act.put, List.getElem_toArray, List.getElem_cons_succ, List.getElem_cons_zero, List.setIfInBounds_toArray, List.set_cons_zero, List.set_cons_succ]
  refine anyHeld_one 6 (by kernel_rfl) rfl (by rfl) (fun K hK => ?_)
  go_simp
  refine ⟨trivial, (callsIn_wide.2 (step_t (HP.out.same (Keeps.refl _ _).drew) s.id s.b s.px s.py s.qx s.qy s.n HS.out s.k)).mono ?_⟩
  rintro e W1 ⟨rfl, L', hP1⟩
  have hrow := HROW.out _ hP1.1
  obtain ⟨SR, hR⟩ := hP1.ref
  obtain ⟨ai, ci, ab, cb, hr2, _, _, _, _⟩ := hR
  obtain ⟨n, hn⟩ : ∃ n : Nat, n = L'.length := ⟨_, rfl⟩
  have hnI : (n : Int) ≤ 65536 := by have := hP1.small; omega
  have hcR := hr2.1.cell
  rw [← hn] at hcR
  have HR := Lib.hid hr2.1
  rw [← hn] at HR
  have HN := Lib.hid hn
  have HP := Lib.hid hP1
  clear hn hP1 hS1 hr2
  refine hK _ _ hrow (anyHeld_weaken (S' := fun W' => (W'.cell? ⟨lb, off + i * 11, none⟩ = some (.int .i64 s.k) ∧ W'.cell? ⟨lb, off + i * 11 + 1, none⟩ = some (.int .u32 (s.id : Int)) ∧ W'.cell? ⟨lb, off + i * 11 + 2, none⟩ = some (.int .i32 s.b.x0) ∧ W'.cell? ⟨lb, off + i * 11 + 3, none⟩ = some (.int .i32 s.b.y0) ∧ W'.cell? ⟨lb, off + i * 11 + 4, none⟩ = some (.int .i32 s.b.x1) ∧ W'.cell? ⟨lb, off + i * 11 + 5, none⟩ = some (.int .i32 s.b.y1) ∧ W'.cell? ⟨lb, off + i * 11 + 6, none⟩ = some (.int .i32 s.px) ∧ W'.cell? ⟨lb, off + i * 11 + 7, none⟩ = some (.int .i32 s.py) ∧ W'.cell? ⟨lb, off + i * 11 + 8, none⟩ = some (.int .i32 s.qx) ∧ W'.cell? ⟨lb, off + i * 11 + 9, none⟩ = some (.int .i32 s.qy) ∧ W'.cell? ⟨lb, off + i * 11 + 10, none⟩ = some (.int .i64 s.n)) ∧ ∀ j : Nat, W'.cell? ⟨R, j, none⟩ = ([.slice ai n ci, .slice ab n cb] : List Value)[j]?) (fun _ h => h.1) _ _ _ _ ?_)
  have hS2 := And.intro hrow hcR
  clear hK hrow hcR
  try simp only [Act.put, List.setIfInBounds_toArray, List.set_cons_zero, List.set_cons_succ]
  (refine anyHeld_take 7 (v := ?_) (by kernel_rfl) rfl (by kernel_rfl) (by kernel_rfl) (by kernel_rfl) (fun _ _ _ h => h) ⟨Or.inl ⟨by rfl, ?_⟩, fun _ _ _ => trivial⟩ (by with_reducible assumption) ?_; rotate_left; (focus (rintro w ⟨⟨q0, q1, q2, q3, q4, q5, q6, q7, q8, q9, q10⟩, c0⟩; go_simp; (try simp only [hdec]); try with_reducible rfl))); simp only [Act.put, List.getElem_toArray, List.getElem_cons_succ, List.getElem_cons_zero, List.setIfInBounds_toArray, List.set_cons_zero, List.set_cons_succ]
  (refine anyHeld_take 8 (v := ?_) (by kernel_rfl) rfl (by kernel_rfl) (by kernel_rfl) (by kernel_rfl) (fun _ _ _ h => h) ⟨Or.inl ⟨by rfl, ?_⟩, fun _ _ _ => trivial⟩ (by with_reducible assumption) ?_; rotate_left; (focus (rintro w ⟨⟨q0, q1, q2, q3, q4, q5, q6, q7, q8, q9, q10⟩, c0⟩; go_simp; (try simp only [hdec]); try with_reducible rfl))); simp only [Act.put, List.getElem_toArray, List.getElem_cons_succ, List.getElem_cons_zero, List.setIfInBounds_toArray, List.set_cons_zero, List.set_cons_succ]
  (refine anyHeld_take 9 (v := ?_) (by kernel_rfl) rfl (by kernel_rfl) (by kernel_rfl) (by kernel_rfl) (fun _ _ _ h => h) ⟨Or.inl ⟨by rfl, ?_⟩, fun _ _ _ => trivial⟩ (by with_reducible assumption) ?_; rotate_left; (focus (rintro w ⟨⟨q0, q1, q2, q3, q4, q5, q6, q7, q8, q9, q10⟩, c0⟩; go_simp; (try simp only [hdec]); try with_reducible rfl))); simp only [Act.put, List.getElem_toArray, List.getElem_cons_succ, List.getElem_cons_zero, List.setIfInBounds_toArray, List.set_cons_zero, List.set_cons_succ]
  (refine anyHeld_take 11 (v := ?_) (by kernel_rfl) rfl (by kernel_rfl) (by kernel_rfl) (by kernel_rfl) (fun _ _ _ h => h) ⟨Or.inl ⟨by rfl, ?_⟩, fun _ _ _ => trivial⟩ (by with_reducible assumption) ?_; rotate_left; (focus (rintro w ⟨⟨q0, q1, q2, q3, q4, q5, q6, q7, q8, q9, q10⟩, c0⟩; go_simp; (try simp only [hdec]); try with_reducible rfl))); simp only [Act.put, List.getElem_toArray, List.getElem_cons_succ, List.getElem_cons_zero, List.setIfInBounds_toArray, List.set_cons_zero, List.set_cons_succ]
  (refine anyHeld_take 12 (v := ?_) (by kernel_rfl) rfl (by kernel_rfl) (by kernel_rfl) (by kernel_rfl) (fun _ _ _ h => h) ⟨Or.inl ⟨by rfl, ?_⟩, fun _ _ _ => trivial⟩ (by with_reducible assumption) ?_; rotate_left; (focus (rintro w ⟨⟨q0, q1, q2, q3, q4, q5, q6, q7, q8, q9, q10⟩, c0⟩; go_simp; (try simp only [hdec]); try with_reducible rfl))); simp only [Act.put, List.getElem_toArray, List.getElem_cons_succ, List.getElem_cons_zero, List.setIfInBounds_toArray, List.set_cons_zero, List.set_cons_succ]
  (refine anyHeld_take 13 (v := ?_) (by kernel_rfl) rfl (by kernel_rfl) (by kernel_rfl) (by kernel_rfl) (fun _ _ _ h => h) ⟨Or.inl ⟨by rfl, ?_⟩, fun _ _ _ => trivial⟩ (by with_reducible assumption) ?_; rotate_left; (focus (rintro w ⟨⟨q0, q1, q2, q3, q4, q5, q6, q7, q8, q9, q10⟩, c0⟩; go_simp; (try simp only [hdec]); try with_reducible rfl))); simp only [Act.put, List.getElem_toArray, List.getElem_cons_succ, List.getElem_cons_zero, List.setIfInBounds_toArray, List.set_cons_zero, List.set_cons_succ]
  (refine anyHeld_take 14 (v := ?_) (by kernel_rfl) rfl (by kernel_rfl) (by kernel_rfl) (by kernel_rfl) (fun _ _ _ h => h) ⟨Or.inl ⟨by rfl, ?_⟩, fun _ _ _ => trivial⟩ (by with_reducible assumption) ?_; rotate_left; (focus (rintro w ⟨⟨q0, q1, q2, q3, q4, q5, q6, q7, q8, q9, q10⟩, c0⟩; go_simp; (try simp only [hdec]); try with_reducible rfl))); simp only [Act.put, List.getElem_toArray, List.getElem_cons_succ, List.getElem_cons_zero, List.setIfInBounds_toArray, List.set_cons_zero, List.set_cons_succ]
  (refine anyHeld_take 15 (v := ?_) (by kernel_rfl) rfl (by kernel_rfl) (by kernel_rfl) (by kernel_rfl) (fun _ _ _ h => h) ⟨Or.inl ⟨by rfl, ?_⟩, fun _ _ _ => trivial⟩ (by with_reducible assumption) ?_; rotate_left; (focus (rintro w ⟨⟨q0, q1, q2, q3, q4, q5, q6, q7, q8, q9, q10⟩, c0⟩; go_simp; (try simp only [hdec]); try with_reducible rfl))); simp only [Act.put, List.getElem_toArray, List.getElem_cons_succ, List.getElem_cons_zero, List.setIfInBounds_toArray, List.set_cons_zero, List.set_cons_succ]
  refine anyHeld_one 10 (by kernel_rfl) rfl (by rfl) (fun K hK => ?_)
  go_simp
  refine ⟨trivial, (callsIn_wide.2 (ps_len HP.out)).mono ?_⟩
  rintro e W2 ⟨rfl, hk⟩
  have hP2 := HP.out.same hk
  have hrow := HROW.out _ hP2.1
  have hR2 := HR.out.keeps hk (fun h => h)
  have hS2' := And.intro hrow hR2.cell
  have HP := Lib.hid hP2
  have HR := Lib.hid hR2
  refine hK _ _ hS2' ?_
  clear hK hS2 hP2 hR2 hk hrow
  rw [← HN.out]
  try simp only [Act.put, List.setIfInBounds_toArray, List.set_cons_zero, List.set_cons_succ]
  (refine anyHeld_take 16 (v := ?_) (by kernel_rfl) rfl (by kernel_rfl) (by kernel_rfl) (by kernel_rfl) (fun _ _ _ h => h) ⟨Or.inl ⟨by rfl, ?_⟩, fun _ _ _ => trivial⟩ (by with_reducible assumption) ?_; rotate_left; (focus (rintro w ⟨⟨q0, q1, q2, q3, q4, q5, q6, q7, q8, q9, q10⟩, c0⟩; go_simp; (try simp only [hdec]); try with_reducible rfl))); simp only [Act.put, List.getElem_toArray, List.getElem_cons_succ, List.getElem_cons_zero, List.setIfInBounds_toArray, List.set_cons_zero, List.set_cons_succ]
  (refine anyHeld_take 17 (v := ?_) (by kernel_rfl) rfl (by kernel_rfl) (by kernel_rfl) (by kernel_rfl) (fun _ _ _ h => h) ⟨Or.inl ⟨by rfl, ?_⟩, fun _ _ _ => trivial⟩ (by with_reducible assumption) ?_; rotate_left; (focus (rintro w ⟨⟨q0, q1, q2, q3, q4, q5, q6, q7, q8, q9, q10⟩, c0⟩; go_simp; (try simp only [hdec]); try with_reducible rfl))); simp only [Act.put, List.getElem_toArray, List.getElem_cons_succ, List.getElem_cons_zero, List.setIfInBounds_toArray, List.set_cons_zero, List.set_cons_succ]
  (refine anyHeld_take 18 (v := ?_) (by kernel_rfl) rfl (by kernel_rfl) (by kernel_rfl) (by kernel_rfl) (fun _ _ _ h => h) ⟨Or.inl ⟨by rfl, ?_⟩, fun _ _ _ => trivial⟩ (by with_reducible assumption) ?_; rotate_left; (focus (rintro w ⟨⟨q0, q1, q2, q3, q4, q5, q6, q7, q8, q9, q10⟩, c0⟩; go_simp; (try simp only [hdec]); try with_reducible rfl))); simp only [Act.put, List.getElem_toArray, List.getElem_cons_succ, List.getElem_cons_zero, List.setIfInBounds_toArray, List.set_cons_zero, List.set_cons_succ]
  (refine anyHeld_take 19 (v := ?_) (by kernel_rfl) rfl (by kernel_rfl) (by kernel_rfl) (by kernel_rfl) (fun _ _ _ h => h) ⟨Or.inl ⟨by rfl, ?_⟩, fun _ _ _ => trivial⟩ (by with_reducible assumption) ?_; rotate_left; (focus (rintro w ⟨⟨q0, q1, q2, q3, q4, q5, q6, q7, q8, q9, q10⟩, c0⟩; go_simp; (try simp only [hdec]); try with_reducible rfl))); simp only [Act.put, List.getElem_toArray, List.getElem_cons_succ, List.getElem_cons_zero, List.setIfInBounds_toArray, List.set_cons_zero, List.set_cons_succ]
  (refine anyHeld_take 21 (v := ?_) (by kernel_rfl) rfl (by kernel_rfl) (by kernel_rfl) (by kernel_rfl) (fun _ _ _ h => h) ⟨Or.inl ⟨by rfl, ?_⟩, fun _ _ _ => trivial⟩ (by with_reducible assumption) ?_; rotate_left; (focus (rintro w ⟨⟨q0, q1, q2, q3, q4, q5, q6, q7, q8, q9, q10⟩, c0⟩; go_simp; (try simp only [hdec]); try with_reducible rfl))); simp only [Act.put, List.getElem_toArray, List.getElem_cons_succ, List.getElem_cons_zero, List.setIfInBounds_toArray, List.set_cons_zero, List.set_cons_succ]
  (refine anyHeld_take 22 (v := ?_) (by kernel_rfl) rfl (by kernel_rfl) (by kernel_rfl) (by kernel_rfl) (fun _ _ _ h => h) ⟨Or.inl ⟨by rfl, ?_⟩, fun _ _ _ => trivial⟩ (by with_reducible assumption) ?_; rotate_left; (focus (rintro w ⟨⟨q0, q1, q2, q3, q4, q5, q6, q7, q8, q9, q10⟩, c0⟩; go_simp; (try simp only [hdec]); try with_reducible rfl))); simp only [Act.put, List.getElem_toArray, List.getElem_cons_succ, List.getElem_cons_zero, List.setIfInBounds_toArray, List.set_cons_zero, List.set_cons_succ]
  (refine anyHeld_take 23 (v := ?_) (by kernel_rfl) rfl (by kernel_rfl) (by kernel_rfl) (by kernel_rfl) (fun _ _ _ h => h) ⟨Or.inl ⟨by rfl, ?_⟩, fun _ _ _ => trivial⟩ (by with_reducible assumption) ?_; rotate_left; (focus (rintro w ⟨⟨q0, q1, q2, q3, q4, q5, q6, q7, q8, q9, q10⟩, c0⟩; go_simp; (try simp only [hdec]); try with_reducible rfl))); simp only [Act.put, List.getElem_toArray, List.getElem_cons_succ, List.getElem_cons_zero, List.setIfInBounds_toArray, List.set_cons_zero, List.set_cons_succ]
  (refine anyHeld_take 24 (v := ?_) (by kernel_rfl) rfl (by kernel_rfl) (by kernel_rfl) (by kernel_rfl) (fun _ _ _ h => h) ⟨Or.inl ⟨by rfl, ?_⟩, fun _ _ _ => trivial⟩ (by with_reducible assumption) ?_; rotate_left; (focus (rintro w ⟨⟨q0, q1, q2, q3, q4, q5, q6, q7, q8, q9, q10⟩, c0⟩; go_simp; (try simp only [hdec]); try with_reducible rfl))); simp only [Act.put, List.getElem_toArray, List.getElem_cons_succ, List.getElem_cons_zero, List.setIfInBounds_toArray, List.set_cons_zero, List.set_cons_succ]
  (refine anyHeld_take 25 (v := ?_) (by kernel_rfl) rfl (by kernel_rfl) (by kernel_rfl) (by kernel_rfl) (fun _ _ _ h => h) ⟨Or.inl ⟨by rfl, ?_⟩, fun _ _ _ => trivial⟩ (by with_reducible assumption) ?_; rotate_left; (focus (rintro w ⟨⟨q0, q1, q2, q3, q4, q5, q6, q7, q8, q9, q10⟩, c0⟩; go_simp; (try simp only [hdec]); try with_reducible rfl))); simp only [Act.put, List.getElem_toArray, List.getElem_cons_succ, List.getElem_cons_zero, List.setIfInBounds_toArray, List.set_cons_zero, List.set_cons_succ]
  refine anyHeld_one 20 (by kernel_rfl) rfl (by rfl) (fun K hK => ?_)
  go_simp
  refine ⟨trivial, (callsIn_wide.2 (ps_depth HP.out)).mono ?_⟩
  rintro e W3 ⟨⟨d, rfl, hd0, hd1, hd2, hd3⟩, rfl⟩
  have HD := Lib.hid (And.intro hd2 hd3)
  clear hd2 hd3
  refine hK _ _ hS2' ?_
  clear hK
  try simp only [Act.put, List.setIfInBounds_toArray, List.set_cons_zero, List.set_cons_succ]
  refine anyHeld_one 26 (by kernel_rfl) rfl (by rfl) (fun K hK => ?_)
  go_simp
  refine ⟨trivial, (callsIn_wide.2 (deep_t n _ hnI)).mono ?_⟩
  rintro e W3 ⟨⟨dd, rfl, hdd1, hdd2⟩, rfl⟩
  have hle : d ≤ 2 * (dd : Int) := HD.out.2 dd (by rw [← HN.out]; exact hdd1)
  clear hdd1
  refine hK _ _ hS2' ?_
  clear hK
  have hm : IntKind.i64.wrap (2 * (dd : Int)) = 2 * (dd : Int) := IntWalk.i64_in _ (by omega)
  have hgt : ¬ 2 * (dd : Int) < d := by omega
  try simp only [Act.put, List.setIfInBounds_toArray, List.set_cons_zero, List.set_cons_succ]
  (refine anyHeld_take 27 (v := ?_) (by kernel_rfl) rfl (by kernel_rfl) (by kernel_rfl) (by kernel_rfl) (fun _ _ _ h => h) ⟨Or.inl ⟨by rfl, ?_⟩, fun _ _ _ => trivial⟩ (by with_reducible assumption) ?_; rotate_left; (focus (rintro w ⟨⟨q0, q1, q2, q3, q4, q5, q6, q7, q8, q9, q10⟩, c0⟩; go_simp; (try simp only [hdec]); try with_reducible rfl))); simp only [Act.put, List.getElem_toArray, List.getElem_cons_succ, List.getElem_cons_zero, List.setIfInBounds_toArray, List.set_cons_zero, List.set_cons_succ]
  (refine anyHeld_take 28 (v := ?_) (by kernel_rfl) rfl (by kernel_rfl) (by kernel_rfl) (by kernel_rfl) (fun _ _ _ h => h) ⟨Or.inl ⟨by rfl, ?_⟩, fun _ _ _ => trivial⟩ (by with_reducible assumption) ?_; rotate_left; (focus (rintro w ⟨⟨q0, q1, q2, q3, q4, q5, q6, q7, q8, q9, q10⟩, c0⟩; go_simp; (try simp only [hdec]); try with_reducible rfl))); simp only [Act.put, List.getElem_toArray, List.getElem_cons_succ, List.getElem_cons_zero, List.setIfInBounds_toArray, List.set_cons_zero, List.set_cons_succ]
  (refine anyHeld_take 29 (v := ?_) (by kernel_rfl) rfl (by kernel_rfl) (by kernel_rfl) (by kernel_rfl) (fun _ _ _ h => h) ⟨Or.inl ⟨by rfl, ?_⟩, fun _ _ _ => trivial⟩ (by with_reducible assumption) ?_; rotate_left; (focus (rintro w ⟨⟨q0, q1, q2, q3, q4, q5, q6, q7, q8, q9, q10⟩, c0⟩; go_simp; (try simp only [hdec]); try with_reducible rfl))); simp only [Act.put, List.getElem_toArray, List.getElem_cons_succ, List.getElem_cons_zero, List.setIfInBounds_toArray, List.set_cons_zero, List.set_cons_succ]
  (refine anyHeld_take 30 (v := ?_) (by kernel_rfl) rfl (by kernel_rfl) (by kernel_rfl) (by kernel_rfl) (fun _ _ _ h => h) ⟨Or.inl ⟨by rfl, ?_⟩, fun _ _ _ => trivial⟩ (by with_reducible assumption) ?_; rotate_left; (focus (rintro w ⟨⟨q0, q1, q2, q3, q4, q5, q6, q7, q8, q9, q10⟩, c0⟩; go_simp; (try simp only [hdec]); try with_reducible rfl))); simp only [Act.put, List.getElem_toArray, List.getElem_cons_succ, List.getElem_cons_zero, List.setIfInBounds_toArray, List.set_cons_zero, List.set_cons_succ]
  (refine anyHeld_take 31 (v := ?_) (by kernel_rfl) rfl (by kernel_rfl) (by kernel_rfl) (by kernel_rfl) (fun _ _ _ h => h) ⟨Or.inl ⟨by rfl, ?_⟩, fun _ _ _ => trivial⟩ (by with_reducible assumption) ?_; rotate_left; (focus (rintro w ⟨⟨q0, q1, q2, q3, q4, q5, q6, q7, q8, q9, q10⟩, c0⟩; go_simp; (try simp only [hdec]); try with_reducible rfl))); simp only [Act.put, List.getElem_toArray, List.getElem_cons_succ, List.getElem_cons_zero, List.setIfInBounds_toArray, List.set_cons_zero, List.set_cons_succ]
  clear hm hgt hle hdd2 hdec
  obtain ⟨z, hdec⟩ : ∃ z : Bool, ((n : Int) == 0) = z := ⟨_, rfl⟩
  (refine anyHeld_take 34 (v := ?_) (by kernel_rfl) rfl (by kernel_rfl) (by kernel_rfl) (by kernel_rfl) (fun _ _ _ h => h) ⟨Or.inl ⟨by rfl, ?_⟩, fun _ _ _ => trivial⟩ (by with_reducible assumption) ?_; rotate_left; (focus (rintro w ⟨⟨q0, q1, q2, q3, q4, q5, q6, q7, q8, q9, q10⟩, c0⟩; go_simp; (try simp only [hdec]); try with_reducible rfl))); simp only [Act.put, List.getElem_toArray, List.getElem_cons_succ, List.getElem_cons_zero, List.setIfInBounds_toArray, List.set_cons_zero, List.set_cons_succ]
  (refine anyHeld_take 35 (v := ?_) (by kernel_rfl) rfl (by kernel_rfl) (by kernel_rfl) (by kernel_rfl) (fun _ _ _ h => h) ⟨Or.inl ⟨by rfl, ?_⟩, fun _ _ _ => trivial⟩ (by with_reducible assumption) ?_; rotate_left; (focus (rintro w ⟨⟨q0, q1, q2, q3, q4, q5, q6, q7, q8, q9, q10⟩, c0⟩; go_simp; (try simp only [hdec]); try with_reducible rfl))); simp only [Act.put, List.getElem_toArray, List.getElem_cons_succ, List.getElem_cons_zero, List.setIfInBounds_toArray, List.set_cons_zero, List.set_cons_succ]
  (refine anyHeld_take 36 (v := ?_) (by kernel_rfl) rfl (by kernel_rfl) (by kernel_rfl) (by kernel_rfl) (fun _ _ _ h => h) ⟨Or.inl ⟨by rfl, ?_⟩, fun _ _ _ => trivial⟩ (by with_reducible assumption) ?_; rotate_left; (focus (rintro w ⟨⟨q0, q1, q2, q3, q4, q5, q6, q7, q8, q9, q10⟩, c0⟩; go_simp; (try simp only [hdec]); try with_reducible rfl))); simp only [Act.put, List.getElem_toArray, List.getElem_cons_succ, List.getElem_cons_zero, List.setIfInBounds_toArray, List.set_cons_zero, List.set_cons_succ]
  (refine anyHeld_take 37 (v := ?_) (by kernel_rfl) rfl (by kernel_rfl) (by kernel_rfl) (by kernel_rfl) (fun _ _ _ h => h) ⟨Or.inl ⟨by rfl, ?_⟩, fun _ _ _ => trivial⟩ (by with_reducible assumption) ?_; rotate_left; (focus (rintro w ⟨⟨q0, q1, q2, q3, q4, q5, q6, q7, q8, q9, q10⟩, c0⟩; go_simp; (try simp only [hdec]); try with_reducible rfl))); simp only [Act.put, List.getElem_toArray, List.getElem_cons_succ, List.getElem_cons_zero, List.setIfInBounds_toArray, List.set_cons_zero, List.set_cons_succ]
  (refine anyHeld_take 38 (v := ?_) (by kernel_rfl) rfl (by kernel_rfl) (by kernel_rfl) (by kernel_rfl) (fun _ _ _ h => h) ⟨Or.inl ⟨by rfl, ?_⟩, fun _ _ _ => trivial⟩ (by with_reducible assumption) ?_; rotate_left; (focus (rintro w ⟨⟨q0, q1, q2, q3, q4, q5, q6, q7, q8, q9, q10⟩, c0⟩; go_simp; (try simp only [hdec]); try with_reducible rfl))); simp only [Act.put, List.getElem_toArray, List.getElem_cons_succ, List.getElem_cons_zero, List.setIfInBounds_toArray, List.set_cons_zero, List.set_cons_succ]
  (refine anyHeld_take 39 (v := ?_) (by kernel_rfl) rfl (by kernel_rfl) (by kernel_rfl) (by kernel_rfl) (fun _ _ _ h => h) ⟨Or.inl ⟨by rfl, ?_⟩, fun _ _ _ => trivial⟩ (by with_reducible assumption) ?_; rotate_left; (focus (rintro w ⟨⟨q0, q1, q2, q3, q4, q5, q6, q7, q8, q9, q10⟩, c0⟩; go_simp; (try simp only [hdec]); try with_reducible rfl))); simp only [Act.put, List.getElem_toArray, List.getElem_cons_succ, List.getElem_cons_zero, List.setIfInBounds_toArray, List.set_cons_zero, List.set_cons_succ]
  refine anyHeld_one 32 (by kernel_rfl) rfl (by rfl) (fun K hK => ?_)
  go_simp
  refine ⟨trivial, (callsIn_wide.2 (ps_depth HP.out)).mono ?_⟩
  rintro e W3 ⟨⟨d2, rfl, hd4, hd5, hd6, _⟩, rfl⟩
  refine hK _ _ hS2' ?_
  clear hK
  have hz : (d2 == 0) = z := by
    rw [← hdec, Bool.eq_iff_iff, beq_iff_eq, beq_iff_eq, hd6, ← List.length_eq_zero_iff, ← HN.out]
    omega
  clear hd6 hdec
  have hdec := hz
  clear hz
  try simp only [Act.put, List.setIfInBounds_toArray, List.set_cons_zero, List.set_cons_succ]
  (refine anyHeld_take 33 (v := ?_) (by kernel_rfl) rfl (by kernel_rfl) (by kernel_rfl) (by kernel_rfl) (fun _ _ _ h => h) ⟨Or.inl ⟨by rfl, ?_⟩, fun _ _ _ => trivial⟩ (by with_reducible assumption) ?_; rotate_left; (focus (rintro w ⟨⟨q0, q1, q2, q3, q4, q5, q6, q7, q8, q9, q10⟩, c0⟩; go_simp; (try simp only [hdec]); try with_reducible rfl))); simp only [Act.put, List.getElem_toArray, List.getElem_cons_succ, List.getElem_cons_zero, List.setIfInBounds_toArray, List.set_cons_zero, List.set_cons_succ]
  clear hdec
  have hdec : True := trivial
  cases z
  · skip
    (refine anyHeld_take 40 (v := ?_) (by kernel_rfl) rfl (by kernel_rfl) (by kernel_rfl) (by kernel_rfl) (fun _ _ _ h => h) ⟨Or.inl ⟨by rfl, ?_⟩, fun _ _ _ => trivial⟩ (by with_reducible assumption) ?_; rotate_left; (focus (rintro w ⟨⟨q0, q1, q2, q3, q4, q5, q6, q7, q8, q9, q10⟩, c0⟩; go_simp; (try simp only [hdec]); try with_reducible rfl))); simp only [Act.put, List.getElem_toArray, List.getElem_cons_succ, List.getElem_cons_zero, List.setIfInBounds_toArray, List.set_cons_zero, List.set_cons_succ]
    (refine anyHeld_take 41 (v := ?_) (by kernel_rfl) rfl (by kernel_rfl) (by kernel_rfl) (by kernel_rfl) (fun _ _ _ h => h) ⟨Or.inl ⟨by rfl, ?_⟩, fun _ _ _ => trivial⟩ (by with_reducible assumption) ?_; rotate_left; (focus (rintro w ⟨⟨q0, q1, q2, q3, q4, q5, q6, q7, q8, q9, q10⟩, c0⟩; go_simp; (try simp only [hdec]); try with_reducible rfl))); simp only [Act.put, List.getElem_toArray, List.getElem_cons_succ, List.getElem_cons_zero, List.setIfInBounds_toArray, List.set_cons_zero, List.set_cons_succ]
    refine anyHeld_done (by kernel_rfl) ?_ _
    gi_wp2
    exact ⟨⟨rfl, rfl, by simp⟩, L', HP.out⟩
  · skip
    (refine anyHeld_take 40 (v := ?_) (by kernel_rfl) rfl (by kernel_rfl) (by kernel_rfl) (by kernel_rfl) (fun _ _ _ h => h) ⟨Or.inl ⟨by rfl, ?_⟩, fun _ _ _ => trivial⟩ (by with_reducible assumption) ?_; rotate_left; (focus (rintro w ⟨⟨q0, q1, q2, q3, q4, q5, q6, q7, q8, q9, q10⟩, c0⟩; go_simp; (try simp only [hdec]); try with_reducible rfl))); simp only [Act.put, List.getElem_toArray, List.getElem_cons_succ, List.getElem_cons_zero, List.setIfInBounds_toArray, List.set_cons_zero, List.set_cons_succ]
    (refine anyHeld_take 41 (v := ?_) (by kernel_rfl) rfl (by kernel_rfl) (by kernel_rfl) (by kernel_rfl) (fun _ _ _ h => h) ⟨Or.inl ⟨by rfl, ?_⟩, fun _ _ _ => trivial⟩ (by with_reducible assumption) ?_; rotate_left; (focus (rintro w ⟨⟨q0, q1, q2, q3, q4, q5, q6, q7, q8, q9, q10⟩, c0⟩; go_simp; (try simp only [hdec]); try with_reducible rfl))); simp only [Act.put, List.getElem_toArray, List.getElem_cons_succ, List.getElem_cons_zero, List.setIfInBounds_toArray, List.set_cons_zero, List.set_cons_succ]
    refine anyHeld_done (by kernel_rfl) ?_ _
    gi_wp2
    exact ⟨⟨rfl, rfl, by simp⟩, L', HP.out⟩
set_option maxRecDepth 100000 in
theorem plays_end (W : World) (T R len lc : Nat) (la : Option Addr) (a : Act) (hF : Fr a 86 [(0, .slice la len lc), (3, .pointer (some ⟨T, 0, none⟩)), (4, .pointer (some ⟨R, 0, none⟩)), (5, .int .i64 (len : Int))]) :
    playsL.wp Try.prog (Outs (fun _ _ => False) (fun x a' W' => x = 0 ∧ W' = W ∧ Fr a' 86 [(3, .pointer (some ⟨T, 0, none⟩)), (4, .pointer (some ⟨R, 0, none⟩))]) (fun _ _ => False)) a W := by
  revert hF
  refine fun hF => frames86 (P := fun a => Fr a 86 [(0, .slice la len lc), (3, .pointer (some ⟨T, 0, none⟩)), (4, .pointer (some ⟨R, 0, none⟩)), (5, .int .i64 (len : Int))] → playsL.wp Try.prog (Outs (fun _ _ => False) (fun x a' W' => x = 0 ∧ W' = W ∧ Fr a' 86 [(3, .pointer (some ⟨T, 0, none⟩)), (4, .pointer (some ⟨R, 0, none⟩))]) (fun _ _ => False)) a W) ?_ a hF.1 hF.2.1 hF
  intro u0 u1 u2 u3 u4 u5 u6 u7 u8 u9 u10 u11 u12 u13 u14 u15 u16 u17 u18 u19 u20 u21 u22 u23 u24 u25 u26 u27 u28 u29 u30 u31 u32 u33 u34 u35 u36 u37 u38 u39 u40 u41 u42 u43 u44 u45 u46 u47 u48 u49 u50 u51 u52 u53 u54 u55 u56 u57 u58 u59 u60 u61 u62 u63 u64 u65 u66 u67 u68 u69 u70 u71 u72 u73 u74 u75 u76 u77 u78 u79 u80 u81 u82 u83 u84 u85 hF
  obtain rfl : u0 = .slice la len lc := hF.at_ 0 _ (by simp)
  obtain rfl : u3 = .pointer (some ⟨T, 0, none⟩) := hF.at_ 3 _ (by simp)
  obtain rfl : u4 = .pointer (some ⟨R, 0, none⟩) := hF.at_ 4 _ (by simp)
  obtain rfl : u5 = .int .i64 (len : Int) := hF.at_ 5 _ (by simp)
  clear hF
  conv => arg 2; whnf
  go_wp2
  exact ⟨rfl, rfl, rfl, rfl, by simp⟩
set_option maxHeartbeats 4000000 in
set_option maxRecDepth 100000 in
theorem plays_long (w : World) (la : Option Addr) (len lc : Nat) (h : (4096 : Int) < len) :
    Calls Try.prog 12 #[.slice la len lc] w (Said w) := by
  go_enter Try.func12, Try.ntmps12
  go_wp2
  go_ret
  exact ⟨rfl, Below.refl _ _⟩
def SevenAt (f : Nat) (p : Nat) (v : Int) (N : World → Prop) (W : World) : Prop := Calls Try.prog f #[.pointer (some ⟨p, 0, none⟩), .int .u32 7, .agg #[.int .i32 0, .int .i32 0, .int .i32 1, .int .i32 0]] W (fun e W' => e = .returned (.int .i64 v) ∧ N W')
theorem ps_seven {Far : Nat → Prop} {V W : World} {T R : Nat} {L1 L2 : List (Nat × Bx)} (h : PairSt Far V W T R L1 L2) : Calls Try.prog 20 #[.pointer (some ⟨T, 0, none⟩), .int .u32 7, .agg #[.int .i32 0, .int .i32 0, .int .i32 1, .int .i32 0]] W (fun e W' => e = .returned (.int .i64 (putR L1 7 ⟨0, 0, 1, 0⟩).1) ∧ PairSt Far V W' T R (putR L1 7 ⟨0, 0, 1, 0⟩).2 L2) := ps_put h 7 ⟨0, 0, 1, 0⟩ (by simp [El32])
theorem ps_rseven {Far : Nat → Prop} {V W : World} {T R : Nat} {L1 L2 : List (Nat × Bx)} (h : PairSt Far V W T R L1 L2) : Calls Try.prog 21 #[.pointer (some ⟨R, 0, none⟩), .int .u32 7, .agg #[.int .i32 0, .int .i32 0, .int .i32 1, .int .i32 0]] W (fun e W' => e = .returned (.int .i64 (putR L2 7 ⟨0, 0, 1, 0⟩).1) ∧ PairSt Far V W' T R L1 (putR L2 7 ⟨0, 0, 1, 0⟩).2) := ps_rput h 7 ⟨0, 0, 1, 0⟩ (by simp [El32])
set_option maxHeartbeats 8000000 in
set_option maxRecDepth 100000 in
theorem plays_main (w : World) (la : Option Addr) (lc : Nat) (l : List Stp) (h : RowsS w (.slice la l.length lc) l) (hl : (l.length : Int) ≤ 4096) :
    Calls Try.prog 12 #[.slice la l.length lc] w (Said w) := by
  obtain ⟨a0, c0, e0, hE, hRow⟩ := h
  simp only [Value.slice.injEq] at e0
  obtain ⟨rfl, _, rfl⟩ := e0
  have HE := Lib.hid hE; clear hE
  have HR := Lib.hid hRow; clear hRow
  have HN := Lib.hid new_t
  go_enter Try.func12, Try.ntmps12
  go_wp2_with fail
  refine (HN.out _).mono ?_
  rintro e w1 ⟨T, S1, rfl, hT, hk, hs⟩
  have k1 := (Keeps.refl (fun _ => False) w1).alloc (.cells #[.slice none 0 0, .slice none 0 0] 54)
  have hb := Blk.new w1 54 [.slice none 0 0, .slice none 0 0]
  have hz := hk.size
  have hP : PairSt (Old w) w (w1.alloc (.cells #[.slice none 0 0, .slice none 0 0] 54)) T w1.heap.size [] [] := by
    refine ⟨(hk.trans k1).mono (fun _ _ h => h.elim), fun _ h => h, S1, fun k => k = w1.heap.size, hT.kd k1, ⟨none, 0, none, 0, ⟨hb, World.ownsRow_nil _ _ _ _, World.ownsRow_nil _ _ _ _⟩, List.Pairwise.nil, by simp, by simp, fun k => by simp [Value.ownBlock]⟩, fun k hk => ⟨fun e => ?_, fun ho => ?_⟩, fun k hk ho => ?_⟩
    · have := hT.inb k hk; omega
    · have := hs k hk; unfold Old at ho; omega
    · unfold Old at ho; omega
  have HD := Lib.hid (ps_depth hP)
  have HP := Lib.hid hP
  clear hT hk hs k1 hb hP HN
  go_wp2_with (go_at_call 30; (with_reducible refine HD.out.mono ?_); rintro e w2 ⟨⟨d, rfl, hd0, hd1, hd2, hd3⟩, rfl⟩; obtain rfl : d = 0 := hd2.2 (by trivial); clear hd0 hd1 hd2 hd3)
  refine wp_loop_ghost (fun m a w' => ∃ i L, m = l.length - i ∧ i ≤ l.length ∧ Fr a 86 [(0, .slice la l.length lc), (3, .pointer (some ⟨T, 0, none⟩)), (4, .pointer (some ⟨w1.heap.size, 0, none⟩)), (5, .int .i64 (i : Int))] ∧ PairSt (Old w) w w' T w1.heap.size L L) l.length ?_ ?_
  · exact ⟨0, [], by omega, by omega, ⟨rfl, rfl, by simp⟩, HP.out⟩
  rintro m a w' ⟨i, L, rfl, hi, hF, hP⟩
  by_cases hlt : i < l.length
  · obtain ⟨s, hs⟩ : ∃ s, l[i]? = some s := ⟨_, List.getElem?_eq_getElem hlt⟩
    obtain ⟨lb, off, hla, hlb, hc⟩ := HR.out i s hs
    subst hla
    refine wp_mono (plays_go w w' T w1.heap.size lb off l.length lc i L s hP (HE.out s (List.mem_of_getElem? hs)) hlb hc hlt hl a hF) ?_
    refine Outs.mono ?_ (fun _ _ _ h => h.elim) (fun _ _ h => h.elim)
    rintro a' w'' ⟨hF', L', hP'⟩
    exact ⟨_, by omega, i + 1, L', rfl, by omega, hF', hP'⟩
  obtain rfl : i = l.length := by omega
  refine wp_mono (plays_end w' T w1.heap.size l.length lc la a hF) ?_
  refine Outs.mono (fun _ _ h => h.elim) ?_ (fun _ _ h => h.elim)
  clear hF
  rintro m a w3 ⟨rfl, rfl, hF⟩
  revert hF
  refine fun hF => frames86 (P := fun a => Fr a 86 [(3, .pointer (some ⟨T, 0, none⟩)), (4, .pointer (some ⟨w1.heap.size, 0, none⟩))] → Exit.then _ _ _ a w3) ?_ a hF.1 hF.2.1 hF
  intro u0 u1 u2 u3 u4 u5 u6 u7 u8 u9 u10 u11 u12 u13 u14 u15 u16 u17 u18 u19 u20 u21 u22 u23 u24 u25 u26 u27 u28 u29 u30 u31 u32 u33 u34 u35 u36 u37 u38 u39 u40 u41 u42 u43 u44 u45 u46 u47 u48 u49 u50 u51 u52 u53 u54 u55 u56 u57 u58 u59 u60 u61 u62 u63 u64 u65 u66 u67 u68 u69 u70 u71 u72 u73 u74 u75 u76 u77 u78 u79 u80 u81 u82 u83 u84 u85 hF
  obtain rfl : u3 = .pointer (some ⟨T, 0, none⟩) := hF.at_ 3 _ (by simp)
  obtain rfl : u4 = .pointer (some ⟨w1.heap.size, 0, none⟩) := hF.at_ 4 _ (by simp)
  clear hF
  have HA := Lib.hid hP
  clear hP hi hlt hz hl HD HP HE HR
  dsimp only
  go_wp2_with (first
    | (go_at_call 28; (with_reducible refine (ps_all HA.out).mono ?_); rintro e w1 ⟨rfl, hk⟩; have HA := Lib.hid (HA.out.same hk); clear hk)
    | (go_at_call 20; (with_reducible refine (ps_seven HA.out).mono ?_); rintro e w1 ⟨rfl, hA'⟩; have HA := Lib.hid hA'; clear hA')
    | (go_at_call 21; (with_reducible refine (ps_rseven HA.out).mono ?_); rintro e w1 ⟨rfl, hA'⟩; have HA := Lib.hid hA'; clear hA'))
  go_ret
  exact ⟨rfl, HA.out.1.below (Nat.le_refl _) (fun k hk h => h hk)⟩
theorem plays_any (w : World) (v : Value) (l : List Stp) (h : RowsS w v l) (hl : l.length ≤ maxLen) :
    Calls Try.prog 12 #[v] w (Said w) := by
  have h' := h
  obtain ⟨a0, c0, rfl, _, _⟩ := h'
  by_cases hh : (4096 : Int) < l.length
  · exact plays_long w a0 _ c0 hh
  · exact plays_main w a0 c0 l h (by omega)
end Tree
end Go.Proofs.Ytndghakagogmcaa
