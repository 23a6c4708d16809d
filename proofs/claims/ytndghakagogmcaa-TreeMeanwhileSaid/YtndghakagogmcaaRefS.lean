/-
  RefS: TreeMeanwhile, whole.
-/
import Derived.Test.YtndghakagogmcaaRefR
namespace Go.Proofs.Ytndghakagogmcaa
open Go.RowKit Go.Shelf
set_option linter.unusedVariables false
set_option linter.unusedSimpArgs false
attribute [local go_sem] Oper.semAt_some
namespace Tree
open Mem BT
/-- the walk's world as its loops begin -/
def MwSt (w V : World) (T R Bb Bc B7 B8 cut : Nat) (b : Bx) (Far : Nat → Prop) : Prop :=
  Keeps (fun _ => False) w V ∧ (∀ k, k < w.heap.size → Far k) ∧ Blk V Bb 47 [.int .i32 b.x0, .int .i32 b.y0, .int .i32 b.x1, .int .i32 b.y1] ∧ Far Bb ∧ Blk V Bc 32 [.int .u32 (cut : Int)] ∧ Far Bc ∧ Blk V B7 48 [.pointer (some ⟨T, 0, none⟩)] ∧ Far B7 ∧ Blk V B8 50 [.pointer (some ⟨R, 0, none⟩)] ∧ Far B8
theorem mw_start (w w3 : World) (T cut : Nat) (b : Bx) (S1 : Nat → Prop) (hT : TrS w3 T S1 []) (hk : Keeps (fun _ => False) ((w.alloc (.cells #[.int .i32 b.x0, .int .i32 b.y0, .int .i32 b.x1, .int .i32 b.y1] 47)).alloc (.cells #[.int .u32 (cut : Int)] 32)) w3) (hs : ∀ k, S1 k → w.heap.size + 1 + 1 ≤ k) :
    MwSt w (((w3.alloc (.cells #[.pointer (some ⟨T, 0, none⟩)] 48)).alloc (.cells #[.slice none 0 0, .slice none 0 0] 54)).alloc (.cells #[.pointer (some ⟨w3.heap.size + 1, 0, none⟩)] 50)) T (w3.heap.size + 1) w.heap.size (w.heap.size + 1) w3.heap.size (w3.heap.size + 1 + 1) cut b (fun k => k < w.heap.size + 1 + 1 ∨ k = w3.heap.size ∨ k = w3.heap.size + 1 + 1) ∧
    PairSt (fun k => k < w.heap.size + 1 + 1 ∨ k = w3.heap.size ∨ k = w3.heap.size + 1 + 1) (((w3.alloc (.cells #[.pointer (some ⟨T, 0, none⟩)] 48)).alloc (.cells #[.slice none 0 0, .slice none 0 0] 54)).alloc (.cells #[.pointer (some ⟨w3.heap.size + 1, 0, none⟩)] 50)) (((w3.alloc (.cells #[.pointer (some ⟨T, 0, none⟩)] 48)).alloc (.cells #[.slice none 0 0, .slice none 0 0] 54)).alloc (.cells #[.pointer (some ⟨w3.heap.size + 1, 0, none⟩)] 50)) T (w3.heap.size + 1) [] [] := by
  have k0 := ((Keeps.refl (fun _ => False) w).alloc (.cells #[.int .i32 b.x0, .int .i32 b.y0, .int .i32 b.x1, .int .i32 b.y1] 47)).alloc (.cells #[.int .u32 (cut : Int)] 32)
  have k3 := (((Keeps.refl (fun _ => False) w3).alloc (.cells #[.pointer (some ⟨T, 0, none⟩)] 48)).alloc (.cells #[.slice none 0 0, .slice none 0 0] 54)).alloc (.cells #[.pointer (some ⟨w3.heap.size + 1, 0, none⟩)] 50)
  have hz := hk.size
  simp only [World.size_alloc] at hz
  have b1 := ((Blk.new w 47 [.int .i32 b.x0, .int .i32 b.y0, .int .i32 b.x1, .int .i32 b.y1]).alloc (.cells #[.int .u32 (cut : Int)] 32)).keeps (hk.trans k3) (fun h => h)
  have b2 := (Blk.new (w.alloc (.cells #[.int .i32 b.x0, .int .i32 b.y0, .int .i32 b.x1, .int .i32 b.y1] 47)) 32 [.int .u32 (cut : Int)]).keeps (hk.trans k3) (fun h => h)
  have b3 := ((Blk.new w3 48 [.pointer (some ⟨T, 0, none⟩)]).alloc (.cells #[.slice none 0 0, .slice none 0 0] 54)).alloc (.cells #[.pointer (some ⟨w3.heap.size + 1, 0, none⟩)] 50)
  have b4 := (Blk.new (w3.alloc (.cells #[.pointer (some ⟨T, 0, none⟩)] 48)) 54 [.slice none 0 0, .slice none 0 0]).alloc (.cells #[.pointer (some ⟨w3.heap.size + 1, 0, none⟩)] 50)
  have b5 := Blk.new ((w3.alloc (.cells #[.pointer (some ⟨T, 0, none⟩)] 48)).alloc (.cells #[.slice none 0 0, .slice none 0 0] 54)) 50 [.pointer (some ⟨w3.heap.size + 1, 0, none⟩)]
  simp only [World.size_alloc] at b1 b2 b3 b4 b5
  refine ⟨⟨(k0.trans hk).trans k3, fun k hk => .inl (by omega), b1, .inl (by omega), b2, .inl (by omega), b3, .inr (.inl rfl), b5, .inr (.inr rfl)⟩, Keeps.refl _ _, fun k hk => ?_, S1, fun k => k = w3.heap.size + 1, hT.kd k3, ⟨none, 0, none, 0, ⟨b4, World.ownsRow_nil _ _ _ _, World.ownsRow_nil _ _ _ _⟩, List.Pairwise.nil, by simp, by simp, fun k => by simp [Value.ownBlock]⟩, fun k hk' => ?_, fun k hk' => ?_⟩
  · simp
    omega
  · have := hs k hk'
    have := hT.inb k hk'
    refine ⟨fun h => by omega, fun h => by omega⟩
  · rintro (h | h | h) <;> omega
set_option maxHeartbeats 4000000 in
set_option maxRecDepth 100000 in
theorem mw_long (w : World) (la : Option Addr) (n lc cut : Nat) (b : Bx) (h : (300 : Int) < n) :
    Calls Try.prog 9 #[.slice la n lc, .agg #[.int .i32 b.x0, .int .i32 b.y0, .int .i32 b.x1, .int .i32 b.y1], .int .u32 (cut : Int)] w (Said w) := by
  have hb : Below w.heap.size w ((w.alloc (.cells #[.int .i32 b.x0, .int .i32 b.y0, .int .i32 b.x1, .int .i32 b.y1] 47)).alloc (.cells #[.int .u32 (cut : Int)] 32)) := ((Below.refl _ w).alloc (Nat.le_refl _) _).alloc (by simp) _
  have HB := Lib.hid hb; clear hb
  go_enter Try.func9, Try.ntmps9
  go_wp2
  go_ret
  exact ⟨rfl, HB.out⟩
theorem ps_told_at {Far : Nat → Prop} {V W : World} {T R : Nat} {L1 L2 : List (Nat × Bx)} (h : PairSt Far V W T R L1 L2) (B1 B2 : Nat) (c : Bx) (h1 : Blk W B1 48 [.pointer (some ⟨T, 0, none⟩)]) (h2 : Blk W B2 47 [.int .i32 c.x0, .int .i32 c.y0, .int .i32 c.x1, .int .i32 c.y1]) :
    Calls Try.prog 27 #[.func (.func 47) #[] #[.pointer (some ⟨B1, 0, none⟩), .pointer (some ⟨B2, 0, none⟩)], .int .i64 0] W (ToldC 0 L1 c W) := ps_told h B1 B2 c 0 h1 h2
theorem tree_gives (w : World) (T : Nat) (S : Nat → Prop) (L : List (Nat × Bx)) (B1 B2 : Nat) (c : Bx) (h1 : Blk w B1 48 [.pointer (some ⟨T, 0, none⟩)]) (h2 : Blk w B2 47 [.int .i32 c.x0, .int .i32 c.y0, .int .i32 c.x1, .int .i32 c.y1]) (h : TrS w T S L) (W1 : World) (hk : Keeps (fun _ => False) w W1) :
    Gives Try.prog 8 47 #[.pointer (some ⟨B1, 0, none⟩), .pointer (some ⟨B2, 0, none⟩)] (fun x : Nat => #[.int .u32 (x : Int)]) (rangeL L c) W1 (fun _ => True) := by
  have hl : (rangeL L c).length ≤ 1000000 := by have := range_len L c; have := h.len; omega
  refine range1_gives 8 B1 B2 _ c _ W1 hl (h1.keeps hk (fun h => h)) (h2.keeps hk (fun h => h)) ?_
  obtain ⟨r, t, hH, hM, he, hR, hI, hl', hS⟩ := h.kd hk
  have hf := hits_range c t
  rw [he] at hf
  have := found_t T r t c W1 hH (by
    have e : (hits c t).length = (rangeL L c).length := by rw [← hf]; simp [idsOf]
    omega)
  rw [hf] at this
  exact this
theorem same_yes (xs : List Nat) (hl : xs.length ≤ 1000000) (W : World) (v1 v2 : Value) (h1 : U32s W v1 xs) (h2 : U32s W v2 xs) : Calls Try.prog 26 #[v1, v2] W (Gave (.bool true) W) := by
  refine (same_t v1 v2 _ _ W h1 h2 (by omega) (by omega)).mono ?_
  rintro e w' ⟨rfl, hk⟩
  exact ⟨by simp, hk⟩
set_option maxHeartbeats 8000000 in
set_option maxRecDepth 100000 in
theorem mw_main (w : World) (la : Option Addr) (lc cut : Nat) (l : List (Nat × Bx)) (b : Bx) (h0 : Rows5 w (.slice la l.length lc) l) (hl : (l.length : Int) ≤ 300) (hcut : cut < 4294967296) (hbx : El32 (77777, b)) :
    Calls Try.prog 9 #[.slice la l.length lc, .agg #[.int .i32 b.x0, .int .i32 b.y0, .int .i32 b.x1, .int .i32 b.y1], .int .u32 (cut : Int)] w (Said w) := by
  obtain ⟨a0, c0, e0, hE, hRow⟩ := h0
  simp only [Value.slice.injEq] at e0
  obtain ⟨rfl, _, rfl⟩ := e0
  have HE := Lib.hid hE; clear hE
  have HR := Lib.hid hRow; clear hRow
  have HX := Lib.hid (And.intro hcut hbx); clear hcut hbx
  have HN := Lib.hid new_t
  refine (callsIn_wide (n := 9)).1 ?_
  refine callsIn_of_wp_marks Try.func9 rfl trivial ?_ rfl
  simp only [Try.ntmps9, List.size_toArray, List.length_cons, List.length_nil, Nat.reduceAdd, Nat.reduceSub, Array.replicate_succ, Array.replicate_zero, List.push_toArray, List.append_toArray, List.nil_append, List.cons_append]
  gi_wp2_with (refine ⟨trivial, ?_⟩; gi_at_call 19; refine (callsIn_wide.2 (HN.out _)).mono ?_; rintro e w3 ⟨T, S1, rfl, hT, hk, hs⟩; have HT := Lib.hid (And.intro hT (And.intro hk hs)); clear hT hk hs)
  have hst := mw_start w w3 T cut b S1 HT.out.1 HT.out.2.1 (fun k hk => by have := HT.out.2.2 k hk; simpa using this)
  obtain ⟨V, hV⟩ : ∃ V, V = ((w3.alloc (.cells #[.pointer (some ⟨T, 0, none⟩)] 48)).alloc (.cells #[.slice none 0 0, .slice none 0 0] 54)).alloc (.cells #[.pointer (some ⟨w3.heap.size + 1, 0, none⟩)] 50) := ⟨_, rfl⟩
  rw [← hV] at hst ⊢
  clear hV
  obtain ⟨Far, hFar⟩ : ∃ F, F = (fun k => k < w.heap.size + 1 + 1 ∨ k = w3.heap.size ∨ k = w3.heap.size + 1 + 1) := ⟨_, rfl⟩
  rw [← hFar] at hst
  clear hFar
  obtain ⟨B8, h8⟩ : ∃ B, B = w3.heap.size + 1 + 1 := ⟨_, rfl⟩
  obtain ⟨R, hR⟩ : ∃ B, B = w3.heap.size + 1 := ⟨_, rfl⟩
  obtain ⟨B7, h7⟩ : ∃ B, B = w3.heap.size := ⟨_, rfl⟩
  obtain ⟨Bc, hc⟩ : ∃ B, B = w.heap.size + 1 := ⟨_, rfl⟩
  obtain ⟨Bb, hb⟩ : ∃ B, B = w.heap.size := ⟨_, rfl⟩
  rw [← h8, ← hR, ← h7, ← hc, ← hb] at hst ⊢
  clear h8 hR h7 hc hb HT HN
  obtain ⟨hst, hP⟩ := hst
  have HST := Lib.hid hst
  have HP := Lib.hid hP
  clear hst hP
  gi_loopw [9] (fun p wr => ∃ (i : Nat) (L' : List (Nat × Bx)), i ≤ l.length ∧ p = .int .i64 (i : Int) ∧ PairSt Far V wr T R L' L') (fun p _ => l.length - (intOf p).toNat)
  case atStart => exact ⟨0, [], Nat.zero_le _, rfl, HP.out⟩
  case round =>
    obtain ⟨i, L', hi, rfl, hP⟩ := hrel
    by_cases hlt : i < l.length
    · obtain ⟨p, hp⟩ : ∃ p, l[i]? = some p := ⟨_, List.getElem?_eq_getElem hlt⟩
      obtain ⟨lb, off, hla, hlb, hc⟩ := HR.out i p hp
      subst hla
      have hcell : ∀ W', Keeps (fun k => ¬ Far k) V W' → (W'.cell? ⟨lb, off + i * 5, none⟩ = some (.int .u32 (p.1 : Int)) ∧ W'.cell? ⟨lb, off + i * 5 + 1, none⟩ = some (.int .i32 p.2.x0) ∧ W'.cell? ⟨lb, off + i * 5 + 2, none⟩ = some (.int .i32 p.2.y0) ∧ W'.cell? ⟨lb, off + i * 5 + 3, none⟩ = some (.int .i32 p.2.x1) ∧ W'.cell? ⟨lb, off + i * 5 + 4, none⟩ = some (.int .i32 p.2.y1)) ∧ (∀ j : Nat, W'.cell? ⟨B7, j, none⟩ = ([.pointer (some ⟨T, 0, none⟩)] : List Value)[j]?) ∧ (∀ j : Nat, W'.cell? ⟨B8, j, none⟩ = ([.pointer (some ⟨R, 0, none⟩)] : List Value)[j]?) := fun W' hk => by
        obtain ⟨s1, s2, s3, s4, s5, s6, s7, s8, s9, s10⟩ := HST.out
        have r := fun j u hj => hk.cell (p := ⟨lb, off + i * 5 + j, none⟩) (s1.cell (p := ⟨lb, off + i * 5 + j, none⟩) (hc j u hj) (fun h => h)) (fun h => h (s2 _ hlb))
        exact ⟨⟨r 0 _ rfl, r 1 _ rfl, r 2 _ rfl, r 3 _ rfl, r 4 _ rfl⟩, (s7.keeps hk (fun h => h s8)).cell, (s9.keeps hk (fun h => h s10)).cell⟩
      have hiI : (i : Int) < l.length := by omega
      have hi0 : (0 : Int) ≤ i := by omega
      have HE1 := Lib.hid (HE.out p (List.mem_of_getElem? hp))
      have HA := Lib.hid (hP.same (Keeps.refl _ wr).drew)
      have cX := hcell wr.drew (hP.same (Keeps.refl _ wr).drew).1
      have HC := Lib.hid hcell
      clear hP hc hcell
      gi_wp2
      refine wpIn_wide.2 ?_
      go_region_held3 (fun W' => (W'.cell? ⟨lb, off + i * 5, none⟩ = some (.int .u32 (p.1 : Int)) ∧ W'.cell? ⟨lb, off + i * 5 + 1, none⟩ = some (.int .i32 p.2.x0) ∧ W'.cell? ⟨lb, off + i * 5 + 2, none⟩ = some (.int .i32 p.2.y0) ∧ W'.cell? ⟨lb, off + i * 5 + 3, none⟩ = some (.int .i32 p.2.x1) ∧ W'.cell? ⟨lb, off + i * 5 + 4, none⟩ = some (.int .i32 p.2.y1)) ∧ (∀ j : Nat, W'.cell? ⟨B7, j, none⟩ = ([.pointer (some ⟨T, 0, none⟩)] : List Value)[j]?) ∧ (∀ j : Nat, W'.cell? ⟨B8, j, none⟩ = ([.pointer (some ⟨R, 0, none⟩)] : List Value)[j]?)) (first | with_reducible assumption | exact cX) (first
        | (go_at_call 20; (with_reducible refine (ps_put HA.out p.1 p.2 HE1.out).mono ?_); rintro e w1 ⟨rfl, hA'⟩; have hS := HC.out _ hA'.1; have HA := Lib.hid hA'; clear hA')
        | (go_at_call 21; (with_reducible refine (ps_rput HA.out p.1 p.2 HE1.out).mono ?_); rintro e w1 ⟨rfl, hA'⟩; have hS := HC.out _ hA'.1; have HA := Lib.hid hA'; clear hA'))
      all_goals
        gi_wp2
        go_roundw
        case rel => exact ⟨i + 1, _, by omega, by go_num, HA.out⟩
        case measure => simp [intOf]; omega
    · obtain rfl : i = l.length := by omega
      have heq := eq_seq 47
      have hcell : ∀ W', Keeps (fun k => ¬ Far k) V W' → Blk W' Bb 47 [.int .i32 b.x0, .int .i32 b.y0, .int .i32 b.x1, .int .i32 b.y1] ∧ Blk W' Bc 32 [.int .u32 (cut : Int)] ∧ Blk W' B7 48 [.pointer (some ⟨T, 0, none⟩)] ∧ Blk W' B8 50 [.pointer (some ⟨R, 0, none⟩)] := fun W' hk => by
        obtain ⟨s1, s2, s3, s4, s5, s6, s7, s8, s9, s10⟩ := HST.out
        exact ⟨s3.keeps hk (fun h => h s4), s5.keeps hk (fun h => h s6), s7.keeps hk (fun h => h s8), s9.keeps hk (fun h => h s10)⟩
      have hsm := hP.small
      obtain ⟨hP1, hP0, SA, SR, hTA, hRA, hd1, hd2⟩ := hP
      obtain ⟨hb0, hc0, h70, h80⟩ := hcell wr hP1
      have cb := hb0.cell
      have c7 := h70.cell
      have c8 := h80.cell
      have HL := Lib.hid hsm
      have HD := Lib.hid (And.intro hd1 hd2)
      have HRR := Lib.hid (rrange_t R SR L' b wr hRA)
      have HTA := Lib.hid hTA
      have HRA := Lib.hid hRA
      have HB := Lib.hid (And.intro hb0 (And.intro hc0 (And.intro h70 h80)))
      have HFAR := Lib.hid (And.intro hP1 hP0)
      clear hsm hd1 hd2 hTA hRA hb0 hc0 h70 h80 hcell hlt hi hP1 hP0 HP
      gi_wp2_with fail
      refine ⟨trivial, (callsIn_wide.2 HRR.out).mono ?_⟩
      rintro e w4 ⟨v, rfl, hv, hk4⟩
      have HV := Lib.hid hv
      have cb := (HB.out.1.keeps hk4 (fun h => h)).cell
      have c7 := (HB.out.2.2.1.keeps hk4 (fun h => h)).cell
      have c8 := (HB.out.2.2.2.keeps hk4 (fun h => h)).cell
      have HK4 := Lib.hid hk4
      clear hv hk4
      gi_wp2_with fail
      refine ⟨trivial, (callsIn_wide.2 (range_any _ _ _ _ _ _)).mono ?_⟩
      rintro e w5 ⟨LB1, LB2, rfl, l1, l2, hk5, p1, p2⟩
      have k5 := HK4.out.trans hk5
      have cb := (HB.out.1.keeps k5 (fun h => h)).cell
      have c7 := (HB.out.2.2.1.keeps k5 (fun h => h)).cell
      have c8 := (HB.out.2.2.2.keeps k5 (fun h => h)).cell
      have HL5 := Lib.hid (And.intro l1 (And.intro l2 (And.intro p1 p2)))
      have HK5 := Lib.hid hk5
      clear l1 l2 p1 p2 hk5 k5
      gi_wp2_with fail
      refine ⟨trivial, (callsIn_wide.2 (range_any _ _ _ _ _ _)).mono ?_⟩
      rintro e w6 ⟨NB1, NB2, rfl, n1, n2, hk6, p3, p4⟩
      have HN6 := Lib.hid (And.intro n1 n2)
      have HK6 := Lib.hid hk6
      clear n1 n2 p3 p4 hk6 cb c7 c8
      gi_wp2_with fail
      have k46 : Keeps (fun _ => False) wr w6 := (HK4.out.trans HK5.out).trans HK6.out
      obtain ⟨hd1, hd2⟩ := HD.out
      have hz6 := k46.size
      have hT6 := HTA.out.kd k46
      have hR6 := HRA.out.kd k46
      obtain ⟨Far2, hFar2⟩ : ∃ F : Nat → Prop, F = (fun k => k < w6.heap.size ∧ ¬ SA k ∧ ¬ SR k) := ⟨_, rfl⟩
      have hF2 : ∀ k, Far2 k → k < w6.heap.size := fun k hk => by rw [hFar2] at hk; exact hk.1
      have hfar : ∀ k, Far k → Far2 k := fun k hk => by
        rw [hFar2]
        have := HFAR.out.2 k hk
        have := HFAR.out.1.size
        exact ⟨by omega, fun h => (hd1 k h).2 hk, fun h => hd2 k h hk⟩
      have hnewF : ∀ k, wr.heap.size ≤ k → k < w6.heap.size → Far2 k := fun k hk1 hk2 => by
        rw [hFar2]
        exact ⟨hk2, fun h => by have := HTA.out.inb k h; omega, fun h => by have := HRA.out.inb k h; omega⟩
      obtain ⟨s1, s2, s3, s4, s5, s6, s7, s8, s9, s10⟩ := HST.out
      obtain ⟨q1, q2, q3, q4⟩ := HB.out
      have ka : Keeps (fun _ => False) w6 (w6.alloc (.cells #[.slice none 0 0] 51)) := (Keeps.refl _ w6).alloc _
      have hz7 : (w6.alloc (.cells #[.slice none 0 0] 51)).heap.size = w6.heap.size + 1 := by simp
      have hgv := tree_gives w6 T SA L' NB1 NB2 b HN6.out.1 HN6.out.2 hT6
      have hlen : (rangeL L' b).length ≤ 1000000 := by have := range_len L' b; have := HL.out; omega
      have HC := Lib.hid (And.intro (q1.keeps k46 (fun h => h)) (And.intro (hfar _ s4) (And.intro (q2.keeps k46 (fun h => h)) (And.intro (hfar _ s6) (And.intro (q3.keeps k46 (fun h => h)) (And.intro (hfar _ s8) (And.intro (q4.keeps k46 (fun h => h)) (hfar _ s10))))))))
      have h0 : MwI T R w6.heap.size cut b L' w6 Far2 [] (fun k => k = w6.heap.size ∨ SA k ∨ SR k) (w6.alloc (.cells #[.slice none 0 0] 51)) := by
        refine ⟨none, 0, SA, SR, Blk.new w6 51 [.slice none 0 0], World.ownsRow_nil _ _ _ _, hT6.kd ka, hR6.kd ka, fun k hk => ⟨(hd1 k hk).1, fun h => by rw [hFar2] at h; exact h.2.1 hk, fun e => by have := hT6.inb k hk; omega, by simp [Value.ownBlock]⟩, fun k hk => ⟨fun h => by rw [hFar2] at h; exact h.2.2 hk, fun e => by have := hR6.inb k hk; omega, by simp [Value.ownBlock]⟩, ka.mono (fun _ _ h => h.elim), fun k => by simp [Value.ownBlock]⟩
      refine wpIn_range (gf := 47) (lb := #[.pointer (some ⟨NB1, 0, none⟩), .pointer (some ⟨NB2, 0, none⟩)]) (encs := fun x : Nat => #[.int .u32 (x : Int)]) (xs := rangeL L' b) (A := fun _ => True) rfl (enters_of Try.func47 (by kernel_rfl) rfl)
        (fun W1 hk => hgv W1 (ka.trans hk)) (fun _ => rfl)
        (MwI T R w6.heap.size cut b L' w6 Far2) (fun _ _ _ _ => False) (MwI.stab _ _ _ _ _ _ _ _ hF2 _ (by omega)) (fun _ _ _ _ _ _ h => h.elim)
        (fun k => k = w6.heap.size ∨ SA k ∨ SR k) (fun k hk => by rw [hz7]; rcases hk with h | h | h; omega; (have := hT6.inb k h; omega); (have := hR6.inb k h; omega)) h0 (fun _ _ => trivial)
        (fun s S W' => MwI T R w6.heap.size cut b L' w6 Far2 s.1 S W' ∧ Fr s.2.2 102 [(4, .pointer (some ⟨Bb, 0, none⟩)), (5, .pointer (some ⟨Bc, 0, none⟩)), (7, .pointer (some ⟨B7, 0, none⟩)), (8, .pointer (some ⟨B8, 0, none⟩)), (13, .pointer (some ⟨w6.heap.size, 0, none⟩)), (14, .int .u32 (s.2.1 : Int))])
        (fun s S U W1 W' hj hi hk hd ht => ⟨MwI.stab _ _ _ _ _ _ _ _ hF2 _ (Nat.le_refl _) s.1 S U W1 W' hj.1 hi hk hd (fun k h => by have := ht k h; omega), hj.2⟩) ?assign ?body ?done ?stop
      case assign =>
        intro l0 pre x rest S W' hxs hI hin hlt
        clear heq
        gi_wp2
        exact ⟨S, Foot.refl _ _, hin, hI, rfl, rfl, by simp⟩
      case body =>
        rintro l0 pre x rest a1 S W' hxs ⟨hI, hF⟩ hin hlt
        obtain ⟨z1, z2, z3, z4, z5, z6, z7, z8⟩ := HC.out
        exact mw_body l0 T R w6.heap.size Bb Bc B7 B8 cut b L' w6 Far2 hF2 z1 z2 z3 z4 z5 z6 z7 z8 (Nat.le_refl _) HX.out.1 HX.out.2 pre x S W' hI hin (by rw [hxs] at hlen; simp at hlen; omega) a1 hF
      case done =>
        rintro D S' W' hD hnD hf hin ⟨a, c, S1, S2, g1, g2, g3, g4, g5, g6, g7, g8⟩ hDD
        obtain ⟨z1, z2, z3, z4, z5, z6, z7, z8⟩ := HC.out
        obtain ⟨l1, l2, p1, p2⟩ := HL5.out
        have k45 := HK5.out
        have k56 := HK6.out
        have y5 := k45.size
        have y6 := k56.size
        have y4 := HK4.out.size
        have hP : PairSt (fun _ => False) W' W' T R (mwL cut b L' (rangeL L' b)) (mwL cut b L' (rangeL L' b)) := ⟨Keeps.refl _ _, fun _ h => h.elim, S1, S2, g3, g4, fun k hk => ⟨(g5 k hk).1, fun h => h⟩, fun _ _ h => h⟩
        have hgot := U32s.of_own g2
        have hwant := U32s.of_own (owns_keeps (owns_keeps HV.out (k45.trans k56) (fun _ _ h => h)) g7 (fun k hk h => h (by have := HV.out.lt k hk; exact hnewF k (by omega) (by omega))))
        have hl1 := (l1.keeps k56 (fun h => h)).keeps g7 (fun h => h (by have := l1.lt; exact hnewF LB1 (by omega) (by omega)))
        have hl2 := (l2.keeps k56 (fun h => h)).keeps g7 (fun h => h (by have := l2.lt; exact hnewF LB2 (by omega) (by omega)))
        have hkw : Keeps (fun _ => False) w W' := ((s1.then HFAR.out.1 (fun i hi hn => hn (s2 i hi))).trans k46).then g7 (fun i hi hn => hn (hfar i (s2 i hi)))
        obtain ⟨n, hn⟩ : ∃ n, n = (rangeL L' b).length := ⟨_, rfl⟩
        obtain ⟨B13, h13⟩ : ∃ B13, B13 = w6.heap.size := ⟨_, rfl⟩
        rw [← hn] at g1 hgot
        rw [hz7] at hD
        have hwD : w.heap.size ≤ D := by have := s1.size; have := HFAR.out.1.size; omega
        rw [← h13] at g1 hD ⊢
        have hcells : ∀ W1, Keeps (fun _ => False) W' W1 → (∀ j : Nat, W1.cell? ⟨B13, j, none⟩ = ([.slice a n c] : List Value)[j]?) ∧ (∀ j : Nat, W1.cell? ⟨B7, j, none⟩ = ([.pointer (some ⟨T, 0, none⟩)] : List Value)[j]?) ∧ (∀ j : Nat, W1.cell? ⟨B8, j, none⟩ = ([.pointer (some ⟨R, 0, none⟩)] : List Value)[j]?) ∧ (∀ j : Nat, W1.cell? ⟨Bb, j, none⟩ = ([.int .i32 b.x0, .int .i32 b.y0, .int .i32 b.x1, .int .i32 b.y1] : List Value)[j]?) := fun W1 hk =>
          ⟨(g1.keeps hk (fun h => h)).cell, ((z5.keeps g7 (fun h => h z6)).keeps hk (fun h => h)).cell, ((z7.keeps g7 (fun h => h z8)).keeps hk (fun h => h)).cell, ((z1.keeps g7 (fun h => h z2)).keeps hk (fun h => h)).cell⟩
        have hlc : (rangeL (mwL cut b L' (rangeL L' b)) b).length ≤ 1000000 := by have := range_len (mwL cut b L' (rangeL L' b)) b; have := hP.small; omega
        have HA := Lib.hid (hP.same (Keeps.refl _ W').drew)
        have HKK := Lib.hid (Keeps.refl (fun _ => False) W').drew
        have HCC := Lib.hid hcells
        have cX := hcells W'.drew (Keeps.refl _ W').drew
        have HGW := Lib.hid (fun W1 (hk : Keeps (fun _ => False) W' W1) => And.intro (hgot.kd hk) (hwant.kd hk))
        have HLL := Lib.hid (fun W1 (hk : Keeps (fun _ => False) W' W1) => And.intro (hl1.keeps hk (fun h => h)) (hl2.keeps hk (fun h => h)))
        have HS1 := Lib.hid (same_yes (rangeL L' b) hlen)
        have HS2 := Lib.hid (same_yes (Tree.cut 0 (rangeL (mwL cut b L' (rangeL L' b)) b)) (Nat.le_trans (cut_le _ _) hlc))
        have HV2 := Lib.hid (Kept.nil W'.drew)
        have HDD := Lib.hid (And.intro hwD hDD)
        have HBW := Lib.hid hkw
        clear heq g1 g2 g3 g4 g5 g6 g7 g8 hP hgot hwant hl1 hl2 hcells hlc hn h13 hkw hwD hD hDD hnD hf hin hd1 hd2 hT6 hR6 hF2 hfar hnewF s1 s2 s3 s4 s5 s6 s7 s8 s9 s10 q1 q2 q3 q4 hgv hlen h0 z1 z2 z3 z4 z5 z6 z7 z8 l1 l2 p1 p2 k45 k56 y4 y5 y6 k46 hz6 hz7 ka hFar2
        gi_wp2
        refine wpIn_wide.2 ?_
        go_region_held3 (fun W1 => (∀ j : Nat, W1.cell? ⟨B13, j, none⟩ = ([.slice a n c] : List Value)[j]?) ∧ (∀ j : Nat, W1.cell? ⟨B7, j, none⟩ = ([.pointer (some ⟨T, 0, none⟩)] : List Value)[j]?) ∧ (∀ j : Nat, W1.cell? ⟨B8, j, none⟩ = ([.pointer (some ⟨R, 0, none⟩)] : List Value)[j]?) ∧ (∀ j : Nat, W1.cell? ⟨Bb, j, none⟩ = ([.int .i32 b.x0, .int .i32 b.y0, .int .i32 b.x1, .int .i32 b.y1] : List Value)[j]?)) (first | with_reducible assumption | exact cX) (first
          | (go_at_call 26; (first | (with_reducible refine (HS1.out _ _ _ (HGW.out _ HKK.out).1 (HGW.out _ HKK.out).2).mono ?_) | (refine (HS2.out _ _ _ (HV2.out _ (.tail _ (.head _))) (HV2.out _ (.head _))).mono ?_)); rintro e w7 ⟨rfl, hk⟩; have hkk := HKK.out.trans hk; have hS := HCC.out _ hkk; have HA := Lib.hid (HA.out.same hk); have HKK := Lib.hid hkk; have HV2 := Lib.hid (Kept.kd HV2.out hk); clear hkk; clear hk)
          | (go_at_call 27; (with_reducible refine (ps_told_at HA.out LB1 LB2 b (HLL.out _ HKK.out).1 (HLL.out _ HKK.out).2).mono ?_); rintro e w7 ⟨v7, rfl, hv, hk⟩; have hkk := HKK.out.trans hk; have hS := HCC.out _ hkk; have HA := Lib.hid (HA.out.same hk); have HKK := Lib.hid hkk; have HV2 := Lib.hid (Kept.kd HV2.out hk); clear hkk; have HV2 := Lib.hid (Kept.add HV2.out hv); clear hk hv)
          | (go_at_call 22; (with_reducible refine (ps_rrange HA.out b).mono ?_); rintro e w7 ⟨v8, rfl, hv, hk⟩; have hkk := HKK.out.trans hk; have hS := HCC.out _ hkk; have HA := Lib.hid (HA.out.same hk); have HKK := Lib.hid hkk; have HV2 := Lib.hid (Kept.kd HV2.out hk); clear hkk; have HV2 := Lib.hid (Kept.add HV2.out hv); clear hk hv)
          | (go_at_call 28; (with_reducible refine (ps_all HA.out).mono ?_); rintro e w7 ⟨rfl, hk⟩; have hkk := HKK.out.trans hk; have hS := HCC.out _ hkk; have HA := Lib.hid (HA.out.same hk); have HKK := Lib.hid hkk; have HV2 := Lib.hid (Kept.kd HV2.out hk); clear hkk; clear hk))
        all_goals
          gi_wp2
          obtain ⟨hD, hDD⟩ := HDD.out
          have hDl : D < W'.heap.size := (Array.getElem?_eq_some_iff.1 hDD).1
          refine ⟨by simp, .inl ⟨_, _, rfl, run_takeDeferred ((HKK.out.block D hDl (fun h => h)).trans hDD), ?_⟩⟩
          refine ⟨_, results_tmp rfl _ _ _, rfl, ((HBW.out.trans HKK.out).then (keeps_putObj _ D _) (fun i hi e => by omega)).below (Nat.le_refl _) (fun _ _ h => h)⟩
      case stop =>
        intro D c0 pre S' W' hD hnD hf hin hpre hx
        exact hx.elim
theorem mw_any (w : World) (v0 : Value) (l : List (Nat × Bx)) (b : Bx) (cut : Nat) (h0 : Rows5 w v0 l) (hl : l.length ≤ maxLen) (hcut : cut < 4294967296) (hbx : El32 (77777, b)) :
    Calls Try.prog 9 #[v0, .agg #[.int .i32 b.x0, .int .i32 b.y0, .int .i32 b.x1, .int .i32 b.y1], .int .u32 (cut : Int)] w (Said w) := by
  have h0' := h0
  obtain ⟨a0, c0, rfl, _, _⟩ := h0'
  by_cases h : (300 : Int) < l.length
  · exact mw_long w a0 _ c0 cut b h
  · exact mw_main w a0 c0 cut l b h0 (by omega) hcut hbx
end Tree
end Go.Proofs.Ytndghakagogmcaa
