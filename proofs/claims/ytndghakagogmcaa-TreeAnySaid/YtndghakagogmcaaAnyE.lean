/-
  AnyE: TreeAny, whole.
-/
import Derived.Test.YtndghakagogmcaaAnyD
namespace Go.Proofs.Ytndghakagogmcaa
open Go.RowKit Go.Shelf
set_option linter.unusedVariables false
set_option linter.unusedSimpArgs false
attribute [local go_sem] Oper.semAt_some
namespace Tree
open Mem BT
def IdsIn (L l : List (Nat × Bx)) : Prop := ∀ x ∈ L, ∃ p ∈ l, p.1 = x.1
def Said (w : World) (e : Ending) (w' : World) : Prop := e = .returned (.bool true) ∧ Below w.heap.size w w'
set_option maxHeartbeats 4000000 in
set_option maxRecDepth 100000 in
theorem any_long (w : World) (la oa : Option Addr) (n m lc oc : Nat) (b : Bx) (h : (300 : Int) < n ∨ (300 : Int) < m) :
    Calls Try.prog 10 #[.slice la n lc, .slice oa m oc, .agg #[.int .i32 b.x0, .int .i32 b.y0, .int .i32 b.x1, .int .i32 b.y1]] w (Said w) := by
  have hb : Below w.heap.size w (w.alloc (.cells #[.int .i32 b.x0, .int .i32 b.y0, .int .i32 b.x1, .int .i32 b.y1] 47)) := (Below.refl _ w).alloc (Nat.le_refl _) _
  have HB := Lib.hid hb; clear hb
  by_cases h1 : (300 : Int) < n
  · go_enter Try.func10, Try.ntmps10
    go_wp2
    go_ret
    exact ⟨rfl, HB.out⟩
  · have h2 : (300 : Int) < m := h.resolve_left h1
    go_enter Try.func10, Try.ntmps10
    go_wp2
    go_ret
    exact ⟨rfl, HB.out⟩
theorem U32s.kd {w w' : World} {v : Value} {xs : List Nat} (h : U32s w v xs) (hk : Keeps (fun _ => False) w w') : U32s w' v xs := by
  obtain ⟨a, c, rfl, h⟩ := h
  refine ⟨a, c, rfl, fun i x hx => ?_⟩
  obtain ⟨b, off, rfl, hc⟩ := h i x hx
  exact ⟨b, off, rfl, hk.cell (p := ⟨b, off + i, none⟩) hc (fun h => h)⟩
def Kept (w : World) (l : List (Value × List Nat)) : Prop := ∀ p ∈ l, U32s w p.1 p.2
theorem Kept.nil (w : World) : Kept w [] := fun p hp => by simp at hp
theorem Kept.kd {w w' : World} {l : List (Value × List Nat)} (h : Kept w l) (hk : Keeps (fun _ => False) w w') : Kept w' l := fun p hp => (h p hp).kd hk
theorem Kept.add {w : World} {l : List (Value × List Nat)} (h : Kept w l) {v : Value} {xs : List Nat} (hv : U32s w v xs) : Kept w ((v, xs) :: l) := fun p hp => by
  rcases List.mem_cons.1 hp with rfl | hp
  · exact hv
  · exact h p hp
theorem any_len1 (w0 : World) (BB T1 T2 : Nat) (b : Bx) (L : List (Nat × Bx)) (W : World) (h : AnySt w0 W BB b T1 T2 L L) : Calls Try.prog 29 #[.pointer (some ⟨T1, 0, none⟩)] W (Gave (.int .i64 (L.length : Int)) W) := by
  obtain ⟨S, hT, _⟩ := h.one
  refine (len_t T1 S L W hT).mono ?_
  rintro e w' ⟨rfl, rfl⟩
  exact ⟨rfl, Keeps.refl _ _⟩
theorem any_len2 (w0 : World) (BB T1 T2 : Nat) (b : Bx) (L : List (Nat × Bx)) (W : World) (h : AnySt w0 W BB b T1 T2 L L) : Calls Try.prog 29 #[.pointer (some ⟨T2, 0, none⟩)] W (Gave (.int .i64 (L.length : Int)) W) := by
  obtain ⟨S, hT, _⟩ := h.two
  refine (len_t T2 S L W hT).mono ?_
  rintro e w' ⟨rfl, rfl⟩
  exact ⟨rfl, Keeps.refl _ _⟩
def Told (xs : List Nat) (w : World) (e : Ending) (w' : World) : Prop := ∃ v, e = .returned v ∧ U32s w' v xs ∧ Keeps (fun _ => False) w w'
theorem range_len (L : List (Nat × Bx)) (c : Bx) : (rangeL L c).length ≤ L.length := by
  unfold rangeL
  rw [List.length_map]
  exact List.length_filter_le _ _
theorem told_st (w : World) (T : Nat) (S : Nat → Prop) (L : List (Nat × Bx)) (B1 B2 : Nat) (c : Bx) (h1 : Blk w B1 48 [.pointer (some ⟨T, 0, none⟩)]) (h2 : Blk w B2 47 [.int .i32 c.x0, .int .i32 c.y0, .int .i32 c.x1, .int .i32 c.y1]) (h : TrS w T S L) :
    Calls Try.prog 27 #[.func (.func 47) #[] #[.pointer (some ⟨B1, 0, none⟩), .pointer (some ⟨B2, 0, none⟩)], .int .i64 0] w (Told (rangeL L c) w) := by
  refine (told_tree w T S L B1 B2 c 0 h1 h2 h).mono ?_
  rintro e w' ⟨v, rfl, ho, hk⟩
  have e : cut 0 (rangeL L c) = rangeL L c := rfl
  rw [e] at ho
  exact ⟨v, rfl, U32s.of_own ho, hk⟩
theorem any_told1 (w0 : World) (BB T1 T2 : Nat) (b : Bx) (L : List (Nat × Bx)) (W : World) (h : AnySt w0 W BB b T1 T2 L L) (B1 B2 : Nat) (c : Bx) (h1 : Blk W B1 48 [.pointer (some ⟨T1, 0, none⟩)]) (h2 : Blk W B2 47 [.int .i32 c.x0, .int .i32 c.y0, .int .i32 c.x1, .int .i32 c.y1]) :
    Calls Try.prog 27 #[.func (.func 47) #[] #[.pointer (some ⟨B1, 0, none⟩), .pointer (some ⟨B2, 0, none⟩)], .int .i64 0] W (Told (rangeL L c) W) := by
  obtain ⟨S, hT, _⟩ := h.one
  exact told_st W T1 S L B1 B2 c h1 h2 hT
theorem any_told2 (w0 : World) (BB T1 T2 : Nat) (b : Bx) (L : List (Nat × Bx)) (W : World) (h : AnySt w0 W BB b T1 T2 L L) (B1 B2 : Nat) (c : Bx) (h1 : Blk W B1 48 [.pointer (some ⟨T2, 0, none⟩)]) (h2 : Blk W B2 47 [.int .i32 c.x0, .int .i32 c.y0, .int .i32 c.x1, .int .i32 c.y1]) :
    Calls Try.prog 27 #[.func (.func 47) #[] #[.pointer (some ⟨B1, 0, none⟩), .pointer (some ⟨B2, 0, none⟩)], .int .i64 0] W (Told (rangeL L c) W) := by
  obtain ⟨S, hT, _⟩ := h.two
  exact told_st W T2 S L B1 B2 c h1 h2 hT
theorem any_same (L : List (Nat × Bx)) (hL : L.length ≤ 65536) (W : World) (v1 v2 : Value) (c : Bx) (h1 : U32s W v1 (rangeL L c)) (h2 : U32s W v2 (rangeL L c)) : Calls Try.prog 26 #[v1, v2] W (Gave (.bool true) W) := by
  have h := range_len L c
  refine (same_t v1 v2 _ _ W h1 h2 (by omega) (by omega)).mono ?_
  rintro e w' ⟨rfl, hk⟩
  exact ⟨by simp, hk⟩
set_option maxHeartbeats 8000000 in
set_option maxRecDepth 100000 in
theorem any_main (w : World) (la oa : Option Addr) (lc oc : Nat) (l : List (Nat × Bx)) (os : List Int) (b : Bx) (h0 : Rows5 w (.slice la l.length lc) l) (h1 : Ints64 w (.slice oa os.length oc) os) (hl : (l.length : Int) ≤ 300) (ho : (os.length : Int) ≤ 300) :
    Calls Try.prog 10 #[.slice la l.length lc, .slice oa os.length oc, .agg #[.int .i32 b.x0, .int .i32 b.y0, .int .i32 b.x1, .int .i32 b.y1]] w (Said w) := by
  obtain ⟨a0, c0, e0, hE, hRow⟩ := h0
  obtain ⟨a1, c1, e1, hZ, hInt⟩ := h1
  simp only [Value.slice.injEq] at e0 e1
  obtain ⟨rfl, _, rfl⟩ := e0
  obtain ⟨rfl, _, rfl⟩ := e1
  have HE := Lib.hid hE; clear hE
  have HR := Lib.hid hRow; clear hRow
  have HZ := Lib.hid hZ; clear hZ
  have HI := Lib.hid hInt; clear hInt
  have HN := Lib.hid new_t
  have HX := Lib.hid (Blk.new w 47 [.int .i32 b.x0, .int .i32 b.y0, .int .i32 b.x1, .int .i32 b.y1])
  have HK := Lib.hid ((Keeps.refl (fun _ => False) w).alloc (.cells #[.int .i32 b.x0, .int .i32 b.y0, .int .i32 b.x1, .int .i32 b.y1] 47))
  go_enter Try.func10, Try.ntmps10
  go_wp2_with fail
  refine (HN.out _).mono ?_
  rintro e w1 ⟨T1, S1, rfl, hT1, hk1, hs1⟩
  have HT1 := Lib.hid (And.intro hT1 (And.intro hk1 hs1))
  clear hT1 hk1 hs1
  go_wp2_with fail
  refine (HN.out _).mono ?_
  rintro e w2 ⟨T2, S2, rfl, hT2, hk2, hs2⟩
  have hst : AnySt w w2 w.heap.size b T1 T2 [] [] := by
    obtain ⟨hT1, hk1, hs1⟩ := HT1.out
    have hz1 := hk1.size
    simp only [World.size_alloc] at hz1
    have hz2 := hk2.size
    have hs1' : ∀ k, S1 k → w.heap.size + 1 ≤ k := fun k hk => by simpa using hs1 k hk
    refine ⟨(HX.out.keeps hk1 (fun h => h)).keeps hk2 (fun h => h), ((HK.out.trans hk1).trans hk2).below (Nat.le_refl _) (fun _ _ h => h), S1, S2, hT1.kd hk2, hT2, fun k hk => ⟨fun h2 => ?_, ?_, ?_⟩, fun k hk => ?_⟩
    · have := hT1.inb k hk; have := hs2 k h2; omega
    · have := hs1' k hk; omega
    · have := hs1' k hk; omega
    · have := hs2 k hk; exact ⟨by omega, by omega⟩
  have HS := Lib.hid hst
  clear hT2 hk2 hs2 hst HT1 HN HX HK
  go_wp2
  refine wp_loop_ghost (fun m a w' => ∃ i L1, m = l.length - i ∧ i ≤ l.length ∧ Fr a 181 [(0, .slice la l.length lc), (1, .slice oa os.length oc), (5, .pointer (some ⟨w.heap.size, 0, none⟩)), (7, .pointer (some ⟨T1, 0, none⟩)), (8, .pointer (some ⟨T2, 0, none⟩)), (9, .int .i64 (i : Int))] ∧ (∀ x ∈ L1, ∃ p ∈ l, p.1 = x.1) ∧ L1.length ≤ i ∧ AnySt w w' w.heap.size b T1 T2 L1 []) l.length ?_ ?_
  · exact ⟨0, [], by omega, by omega, ⟨rfl, rfl, by simp⟩, by simp, by simp, HS.out⟩
  rintro m a w' ⟨i, L1, rfl, hi, hF, hIn, hLen, hA⟩
  by_cases hlt : i < l.length
  · obtain ⟨p, hp⟩ : ∃ p, l[i]? = some p := ⟨_, List.getElem?_eq_getElem hlt⟩
    obtain ⟨lb, off, hla, hlb, hc⟩ := HR.out i p hp
    have hpl := List.mem_of_getElem? hp
    refine wp_mono (any0_go w w' w.heap.size b T1 T2 L1 [] la oa lc oc l os hA hl ho i (by omega) lb off p hla hlb (HE.out p hpl) hc (fun _ _ _ => False) (fun _ _ => False) a hF) ?_
    refine Outs.mono ?_ (fun _ _ _ h => h.elim) (fun _ _ h => h.elim)
    rintro a' w'' ⟨hF', hA'⟩
    refine ⟨_, by omega, i + 1, put1 L1 p, rfl, by omega, hF', fun x hx => ?_, by have := put1_length L1 p; omega, hA'⟩
    rcases put1_mem L1 p x hx with rfl | hx
    · exact ⟨_, hpl, rfl⟩
    · exact hIn x hx
  obtain rfl : i = l.length := by omega
  refine wp_mono (any0_end w' w.heap.size T1 T2 la oa lc oc l.length os.length (fun _ _ => False) (fun _ _ => False) a hF) ?_
  refine Outs.mono (fun _ _ h => h.elim) ?_ (fun _ _ h => h.elim)
  clear hF
  rintro n a w3 ⟨rfl, rfl, hF⟩
  revert hF
  refine fun hF => frames181 (P := fun a => Fr a 181 [(0, .slice la l.length lc), (1, .slice oa os.length oc), (5, .pointer (some ⟨w.heap.size, 0, none⟩)), (7, .pointer (some ⟨T1, 0, none⟩)), (8, .pointer (some ⟨T2, 0, none⟩))] → Exit.then _ _ _ a w3) ?_ a hF.1 hF.2.1 hF
  intro u0 u1 u2 u3 u4 u5 u6 u7 u8 u9 u10 u11 u12 u13 u14 u15 u16 u17 u18 u19 u20 u21 u22 u23 u24 u25 u26 u27 u28 u29 u30 u31 u32 u33 u34 u35 u36 u37 u38 u39 u40 u41 u42 u43 u44 u45 u46 u47 u48 u49 u50 u51 u52 u53 u54 u55 u56 u57 u58 u59 u60 u61 u62 u63 u64 u65 u66 u67 u68 u69 u70 u71 u72 u73 u74 u75 u76 u77 u78 u79 u80 u81 u82 u83 u84 u85 u86 u87 u88 u89 u90 u91 u92 u93 u94 u95 u96 u97 u98 u99 u100 u101 u102 u103 u104 u105 u106 u107 u108 u109 u110 u111 u112 u113 u114 u115 u116 u117 u118 u119 u120 u121 u122 u123 u124 u125 u126 u127 u128 u129 u130 u131 u132 u133 u134 u135 u136 u137 u138 u139 u140 u141 u142 u143 u144 u145 u146 u147 u148 u149 u150 u151 u152 u153 u154 u155 u156 u157 u158 u159 u160 u161 u162 u163 u164 u165 u166 u167 u168 u169 u170 u171 u172 u173 u174 u175 u176 u177 u178 u179 u180 hF
  obtain rfl : u0 = .slice la l.length lc := hF.at_ 0 _ (by simp)
  obtain rfl : u1 = .slice oa os.length oc := hF.at_ 1 _ (by simp)
  obtain rfl : u5 = .pointer (some ⟨w.heap.size, 0, none⟩) := hF.at_ 5 _ (by simp)
  obtain rfl : u7 = .pointer (some ⟨T1, 0, none⟩) := hF.at_ 7 _ (by simp)
  obtain rfl : u8 = .pointer (some ⟨T2, 0, none⟩) := hF.at_ 8 _ (by simp)
  clear hF
  have HS1 := Lib.hid (And.intro hIn (And.intro hLen hA))
  clear hIn hLen hA HS hi hlt
  go_wp2
  refine wp_loop_ghost (fun m a w' => ∃ k L2, m = os.length - k ∧ k ≤ os.length ∧ Fr a 181 [(0, .slice la l.length lc), (1, .slice oa os.length oc), (5, .pointer (some ⟨w.heap.size, 0, none⟩)), (7, .pointer (some ⟨T1, 0, none⟩)), (8, .pointer (some ⟨T2, 0, none⟩)), (10, .int .i64 (k : Int))] ∧ (∀ x ∈ L2, ∃ p ∈ l, p.1 = x.1) ∧ AnySt w w' w.heap.size b T1 T2 L1 L2) os.length ?_ ?_
  · exact ⟨0, [], by omega, by omega, ⟨rfl, rfl, by simp⟩, by simp, HS1.out.2.2⟩
  rintro m a w' ⟨k, L2, rfl, hk, hF, hIn, hA⟩
  by_cases hgo : k < os.length ∧ l ≠ []
  · obtain ⟨hlt, hne⟩ := hgo
    have hpos : 0 < l.length := List.length_pos_iff.2 hne
    obtain ⟨z, hz⟩ : ∃ z, os[k]? = some z := ⟨_, List.getElem?_eq_getElem hlt⟩
    obtain ⟨ob, ooff, hoa, hob, hoc⟩ := HI.out k z hz
    have hm1 := Int.emod_nonneg (z.tmod (l.length : Int)) (show (l.length : Int) ≠ 0 by omega)
    have hm2 := Int.emod_lt_of_pos (z.tmod (l.length : Int)) (show (0 : Int) < (l.length : Int) by omega)
    obtain ⟨i, hi⟩ : ∃ i : Nat, z.tmod (l.length : Int) % (l.length : Int) = (i : Int) := ⟨_, (Int.toNat_of_nonneg hm1).symm⟩
    have hil : i < l.length := by omega
    obtain ⟨p, hp⟩ : ∃ p, l[i]? = some p := ⟨_, List.getElem?_eq_getElem hil⟩
    obtain ⟨lb, off, hla, hlb, hc⟩ := HR.out i p hp
    have hpl := List.mem_of_getElem? hp
    refine wp_mono (any1_go w w' w.heap.size b T1 T2 L1 L2 la oa lc oc l os hA hl ho k (by omega) ob ooff z hoa hob (HZ.out z (List.mem_of_getElem? hz)) hoc i (by omega) hi lb off p hla hlb (HE.out p hpl) hc (fun _ _ _ => False) (fun _ _ => False) a hF) ?_
    refine Outs.mono ?_ (fun _ _ _ h => h.elim) (fun _ _ h => h.elim)
    rintro a' w'' ⟨hF', L2', hL, hA'⟩
    refine ⟨_, by omega, k + 1, L2', rfl, by omega, hF', fun x hx => ?_, hA'⟩
    have hx' : x ∈ put1 L2 p := by
      rcases hL with rfl | rfl
      · exact hx
      · exact ((del1_mem _ _ _).1 hx).1
    rcases put1_mem L2 p x hx' with rfl | hx
    · exact ⟨_, hpl, rfl⟩
    · exact hIn x hx
  have hstop : k = os.length ∨ ((k : Int) < os.length ∧ l.length = 0) := by
    by_cases h : k < os.length
    · refine .inr ⟨by omega, ?_⟩
      have : l = [] := Decidable.byContradiction fun hne => hgo ⟨h, hne⟩
      simp [this]
    · exact .inl (by omega)
  refine wp_mono (any1_stop w' w.heap.size T1 T2 la oa lc oc l.length os.length k hstop (fun _ _ => False) (fun _ _ => False) a hF) ?_
  refine Outs.mono (fun _ _ h => h.elim) ?_ (fun _ _ h => h.elim)
  clear hF
  rintro n a w4 ⟨rfl, rfl, hF⟩
  revert hF
  refine fun hF => frames181 (P := fun a => Fr a 181 [(0, .slice la l.length lc), (1, .slice oa os.length oc), (5, .pointer (some ⟨w.heap.size, 0, none⟩)), (7, .pointer (some ⟨T1, 0, none⟩)), (8, .pointer (some ⟨T2, 0, none⟩))] → Exit.then _ _ _ a w4) ?_ a hF.1 hF.2.1 hF
  intro u0 u1 u2 u3 u4 u5 u6 u7 u8 u9 u10 u11 u12 u13 u14 u15 u16 u17 u18 u19 u20 u21 u22 u23 u24 u25 u26 u27 u28 u29 u30 u31 u32 u33 u34 u35 u36 u37 u38 u39 u40 u41 u42 u43 u44 u45 u46 u47 u48 u49 u50 u51 u52 u53 u54 u55 u56 u57 u58 u59 u60 u61 u62 u63 u64 u65 u66 u67 u68 u69 u70 u71 u72 u73 u74 u75 u76 u77 u78 u79 u80 u81 u82 u83 u84 u85 u86 u87 u88 u89 u90 u91 u92 u93 u94 u95 u96 u97 u98 u99 u100 u101 u102 u103 u104 u105 u106 u107 u108 u109 u110 u111 u112 u113 u114 u115 u116 u117 u118 u119 u120 u121 u122 u123 u124 u125 u126 u127 u128 u129 u130 u131 u132 u133 u134 u135 u136 u137 u138 u139 u140 u141 u142 u143 u144 u145 u146 u147 u148 u149 u150 u151 u152 u153 u154 u155 u156 u157 u158 u159 u160 u161 u162 u163 u164 u165 u166 u167 u168 u169 u170 u171 u172 u173 u174 u175 u176 u177 u178 u179 u180 hF
  obtain rfl : u0 = .slice la l.length lc := hF.at_ 0 _ (by simp)
  obtain rfl : u1 = .slice oa os.length oc := hF.at_ 1 _ (by simp)
  obtain rfl : u5 = .pointer (some ⟨w.heap.size, 0, none⟩) := hF.at_ 5 _ (by simp)
  obtain rfl : u7 = .pointer (some ⟨T1, 0, none⟩) := hF.at_ 7 _ (by simp)
  obtain rfl : u8 = .pointer (some ⟨T2, 0, none⟩) := hF.at_ 8 _ (by simp)
  clear hF
  have HS2 := Lib.hid (And.intro hIn hA)
  clear hIn hA hk hgo hstop
  go_wp2
  refine wp_loop_ghost (fun m a w' => ∃ i L2, m = l.length - i ∧ i ≤ l.length ∧ Fr a 181 [(0, .slice la l.length lc), (1, .slice oa os.length oc), (5, .pointer (some ⟨w.heap.size, 0, none⟩)), (7, .pointer (some ⟨T1, 0, none⟩)), (8, .pointer (some ⟨T2, 0, none⟩)), (12, .int .i64 (i : Int))] ∧ (∀ x ∈ L2, ∃ p ∈ l.drop i, p.1 = x.1) ∧ AnySt w w' w.heap.size b T1 T2 L1 L2) l.length ?_ ?_
  · exact ⟨0, L2, by omega, by omega, ⟨rfl, rfl, by simp⟩, by simpa using HS2.out.1, HS2.out.2⟩
  rintro m a w' ⟨i, L3, rfl, hi, hF, hIn, hA⟩
  by_cases hlt : i < l.length
  · obtain ⟨p, hp⟩ : ∃ p, l[i]? = some p := ⟨_, List.getElem?_eq_getElem hlt⟩
    obtain ⟨lb, off, hla, hlb, hc⟩ := HR.out i p hp
    have hpl := List.mem_of_getElem? hp
    refine wp_mono (any2_go w w' w.heap.size b T1 T2 L1 L3 la oa lc oc l os hA hl ho i (by omega) lb off p hla hlb (HE.out p hpl) hc (fun _ _ _ => False) (fun _ _ => False) a hF) ?_
    refine Outs.mono ?_ (fun _ _ _ h => h.elim) (fun _ _ h => h.elim)
    rintro a' w'' ⟨hF', hA'⟩
    refine ⟨_, by omega, i + 1, del1 L3 p.1, rfl, by omega, hF', fun x hx => ?_, hA'⟩
    obtain ⟨hx1, hx2⟩ := (del1_mem _ _ _).1 hx
    obtain ⟨q, hq, he⟩ := hIn x hx1
    have hd := List.drop_eq_getElem_cons hlt
    rw [(List.getElem?_eq_some_iff.1 hp).2] at hd
    rw [hd] at hq
    rcases List.mem_cons.1 hq with rfl | hq
    · exact absurd he.symm hx2
    · exact ⟨q, hq, he⟩
  obtain rfl : i = l.length := by omega
  refine wp_mono (any2_end w' w.heap.size T1 T2 la oa lc oc l.length os.length (fun _ _ => False) (fun _ _ => False) a hF) ?_
  refine Outs.mono (fun _ _ h => h.elim) ?_ (fun _ _ h => h.elim)
  clear hF
  rintro n a w5 ⟨rfl, rfl, hF⟩
  obtain rfl : L3 = [] := by
    rcases L3 with _ | ⟨x, L3⟩
    · rfl
    · obtain ⟨q, hq, _⟩ := hIn x (by simp)
      simp at hq
  revert hF
  refine fun hF => frames181 (P := fun a => Fr a 181 [(0, .slice la l.length lc), (1, .slice oa os.length oc), (5, .pointer (some ⟨w.heap.size, 0, none⟩)), (7, .pointer (some ⟨T1, 0, none⟩)), (8, .pointer (some ⟨T2, 0, none⟩))] → Exit.then _ _ _ a w5) ?_ a hF.1 hF.2.1 hF
  intro u0 u1 u2 u3 u4 u5 u6 u7 u8 u9 u10 u11 u12 u13 u14 u15 u16 u17 u18 u19 u20 u21 u22 u23 u24 u25 u26 u27 u28 u29 u30 u31 u32 u33 u34 u35 u36 u37 u38 u39 u40 u41 u42 u43 u44 u45 u46 u47 u48 u49 u50 u51 u52 u53 u54 u55 u56 u57 u58 u59 u60 u61 u62 u63 u64 u65 u66 u67 u68 u69 u70 u71 u72 u73 u74 u75 u76 u77 u78 u79 u80 u81 u82 u83 u84 u85 u86 u87 u88 u89 u90 u91 u92 u93 u94 u95 u96 u97 u98 u99 u100 u101 u102 u103 u104 u105 u106 u107 u108 u109 u110 u111 u112 u113 u114 u115 u116 u117 u118 u119 u120 u121 u122 u123 u124 u125 u126 u127 u128 u129 u130 u131 u132 u133 u134 u135 u136 u137 u138 u139 u140 u141 u142 u143 u144 u145 u146 u147 u148 u149 u150 u151 u152 u153 u154 u155 u156 u157 u158 u159 u160 u161 u162 u163 u164 u165 u166 u167 u168 u169 u170 u171 u172 u173 u174 u175 u176 u177 u178 u179 u180 hF
  obtain rfl : u0 = .slice la l.length lc := hF.at_ 0 _ (by simp)
  obtain rfl : u1 = .slice oa os.length oc := hF.at_ 1 _ (by simp)
  obtain rfl : u5 = .pointer (some ⟨w.heap.size, 0, none⟩) := hF.at_ 5 _ (by simp)
  obtain rfl : u7 = .pointer (some ⟨T1, 0, none⟩) := hF.at_ 7 _ (by simp)
  obtain rfl : u8 = .pointer (some ⟨T2, 0, none⟩) := hF.at_ 8 _ (by simp)
  clear hF
  obtain ⟨S2, hT2, hdS⟩ := hA.two
  clear hdS
  have HL := Lib.hid (len_t T2 S2 [] w5 hT2)
  have HD := Lib.hid (show Calls Try.prog 30 #[.pointer (some ⟨T2, 0, none⟩)] w5 (fun e w' => e = .returned (.int .i64 0) ∧ w5 = w') from (depth_t T2 S2 [] w5 hT2).mono fun e w' h => by
    obtain ⟨⟨d, rfl, hd0, hd1, hd2, hd3⟩, rfl⟩ := h
    have hd : d = 0 := hd2.2 rfl
    subst hd
    exact ⟨rfl, rfl⟩)
  have HS3 := Lib.hid hA
  clear hIn hA hi hlt hT2
  simp only [List.length_nil] at HL
  go_wp2_with (first
    | (go_at_call 29; (with_reducible refine HL.out.mono ?_); rintro e w1 ⟨rfl, rfl⟩)
    | (go_at_call 30; (with_reducible refine HD.out.mono ?_); rintro e w1 ⟨rfl, rfl⟩))
  have hL1 : Rising L1 ∧ (∀ x ∈ L1, El32 x ∧ x.2.right = true) ∧ (∀ x ∈ L1, ∃ p ∈ l, p.1 = x.1) := by
    obtain ⟨S1, hT1, _⟩ := HS3.out.one
    exact ⟨hT1.rising, hT1.each, HS1.out.1⟩
  have HL1 := Lib.hid hL1
  clear hL1
  refine wp_loop_ghost (fun m a w' => ∃ i L2, m = i ∧ i ≤ l.length ∧ Fr a 181 [(0, .slice la l.length lc), (1, .slice oa os.length oc), (5, .pointer (some ⟨w.heap.size, 0, none⟩)), (7, .pointer (some ⟨T1, 0, none⟩)), (8, .pointer (some ⟨T2, 0, none⟩)), (13, .int .i64 ((i : Int) - 1))] ∧ (∀ x ∈ L2, x ∈ L1) ∧ L2.length ≤ l.length - i ∧ (∀ p ∈ l.drop i, hasL L1 p.1 = true → hasL L2 p.1 = true) ∧ AnySt w w' w.heap.size b T1 T2 L1 L2) l.length ?_ ?_
  · exact ⟨l.length, [], rfl, Nat.le_refl _, ⟨rfl, rfl, by simp⟩, by simp, by simp, by simp, HS3.out⟩
  rintro m a w' ⟨i, L2, rfl, hi, hF, hSub, hLen, hHas, hA⟩
  by_cases hlt : 0 < m
  · obtain ⟨j, rfl⟩ : ∃ j, m = j + 1 := ⟨m - 1, by omega⟩
    have hjl : j < l.length := by omega
    obtain ⟨p, hp⟩ : ∃ p, l[j]? = some p := ⟨_, List.getElem?_eq_getElem hjl⟩
    obtain ⟨lb, off, hla, hlb, hc⟩ := HR.out j p hp
    have hpl := List.mem_of_getElem? hp
    have hlook : hasL L1 p.1 = true → (p.1, lookL L1 p.1) ∈ L1 := fun h => lookL_mem h
    have hF2 : Fr a 181 [(0, .slice la l.length lc), (1, .slice oa os.length oc), (5, .pointer (some ⟨w.heap.size, 0, none⟩)), (7, .pointer (some ⟨T1, 0, none⟩)), (8, .pointer (some ⟨T2, 0, none⟩)), (13, .int .i64 (j : Int))] := by
      have e : ((j + 1 : Nat) : Int) - 1 = (j : Int) := by omega
      rw [e] at hF
      exact hF
    refine wp_mono (any3_go w w' w.heap.size b T1 T2 L1 L2 la oa lc oc l os hA hl ho j (by omega) lb off p hla hlb (HE.out p hpl) hc (fun h => (HL1.out.2.1 _ (hlook h)).1) (fun _ _ _ => False) (fun _ _ => False) a hF2) ?_
    refine Outs.mono ?_ (fun _ _ _ h => h.elim) (fun _ _ h => h.elim)
    rintro a' w'' ⟨hF', hA'⟩
    have hd := List.drop_eq_getElem_cons hjl
    rw [(List.getElem?_eq_some_iff.1 hp).2] at hd
    refine ⟨j, by omega, j, _, rfl, by omega, hF', ?_, ?_, ?_, hA'⟩
    · intro x hx
      cases hh : hasL L1 p.1 with
      | false => rw [hh] at hx; exact hSub x (by simpa using hx)
      | true =>
        rw [hh, if_pos rfl] at hx
        rcases put1_mem _ _ x hx with rfl | hx
        · exact hlook hh
        · exact hSub x hx
    · split
      · have := put1_length L2 (p.1, lookL L1 p.1); omega
      · omega
    · intro q hq hhq
      rw [hd] at hq
      cases hh : hasL L1 p.1 with
      | false =>
        rw [if_neg (by simp)]
        rcases List.mem_cons.1 hq with rfl | hq
        · rw [hh] at hhq; cases hhq
        · exact hHas q hq hhq
      | true =>
        rw [if_pos rfl]
        rcases List.mem_cons.1 hq with rfl | hq
        · exact put1_has L2 (q.1, lookL L1 q.1) (HL1.out.2.1 _ (hlook hh)).2 (by omega)
        · obtain ⟨x, hx, hxe⟩ := hasL_iff.1 (hHas q hq hhq)
          exact hasL_iff.2 ⟨x, put1_sub _ _ _ hx, hxe⟩
  obtain rfl : m = 0 := by omega
  have hEq : L2 = L1 := by
    obtain ⟨S2', hT2', _⟩ := hA.two
    refine rising_ext hT2'.rising HL1.out.1 fun x => ⟨hSub x, fun hx => ?_⟩
    obtain ⟨p, hp, hpe⟩ := HL1.out.2.2 x hx
    have h2 := hHas p (by simpa using hp) (hasL_iff.2 ⟨x, hx, hpe.symm⟩)
    obtain ⟨y, hy, hye⟩ := hasL_iff.1 h2
    rw [rising_one HL1.out.1 hx (hSub y hy) (by omega)]
    exact hy
  subst hEq
  refine wp_mono (any3_end w' w.heap.size T1 T2 la oa lc oc l.length os.length (fun _ _ => False) (fun _ _ => False) a (by simpa using hF)) ?_
  refine Outs.mono (fun _ _ h => h.elim) ?_ (fun _ _ h => h.elim)
  clear hF
  rintro n a w6 ⟨rfl, rfl, hF⟩
  revert hF
  refine fun hF => frames181 (P := fun a => Fr a 181 [(0, .slice la l.length lc), (1, .slice oa os.length oc), (5, .pointer (some ⟨w.heap.size, 0, none⟩)), (7, .pointer (some ⟨T1, 0, none⟩)), (8, .pointer (some ⟨T2, 0, none⟩))] → Exit.then _ _ _ a w6) ?_ a hF.1 hF.2.1 hF
  intro u0 u1 u2 u3 u4 u5 u6 u7 u8 u9 u10 u11 u12 u13 u14 u15 u16 u17 u18 u19 u20 u21 u22 u23 u24 u25 u26 u27 u28 u29 u30 u31 u32 u33 u34 u35 u36 u37 u38 u39 u40 u41 u42 u43 u44 u45 u46 u47 u48 u49 u50 u51 u52 u53 u54 u55 u56 u57 u58 u59 u60 u61 u62 u63 u64 u65 u66 u67 u68 u69 u70 u71 u72 u73 u74 u75 u76 u77 u78 u79 u80 u81 u82 u83 u84 u85 u86 u87 u88 u89 u90 u91 u92 u93 u94 u95 u96 u97 u98 u99 u100 u101 u102 u103 u104 u105 u106 u107 u108 u109 u110 u111 u112 u113 u114 u115 u116 u117 u118 u119 u120 u121 u122 u123 u124 u125 u126 u127 u128 u129 u130 u131 u132 u133 u134 u135 u136 u137 u138 u139 u140 u141 u142 u143 u144 u145 u146 u147 u148 u149 u150 u151 u152 u153 u154 u155 u156 u157 u158 u159 u160 u161 u162 u163 u164 u165 u166 u167 u168 u169 u170 u171 u172 u173 u174 u175 u176 u177 u178 u179 u180 hF
  obtain rfl : u0 = .slice la l.length lc := hF.at_ 0 _ (by simp)
  obtain rfl : u1 = .slice oa os.length oc := hF.at_ 1 _ (by simp)
  obtain rfl : u5 = .pointer (some ⟨w.heap.size, 0, none⟩) := hF.at_ 5 _ (by simp)
  obtain rfl : u7 = .pointer (some ⟨T1, 0, none⟩) := hF.at_ 7 _ (by simp)
  obtain rfl : u8 = .pointer (some ⟨T2, 0, none⟩) := hF.at_ 8 _ (by simp)
  clear hF
  have HA := Lib.hid (hA.same (Keeps.refl _ w6).drew)
  have cX := hA.1.drew.cell
  clear hSub hLen hHas hA hi hlt HL HD HS3 HS2 HS1 HL1 HI HZ HR HE S2
  have HV := Lib.hid (Kept.nil w6.drew)
  have HLen1 := Lib.hid (any_len1 w w.heap.size T1 T2 b L2)
  have HLen2 := Lib.hid (any_len2 w w.heap.size T1 T2 b L2)
  have HSame := Lib.hid (any_same L2 (by obtain ⟨S, hT, _⟩ := HA.out.one; exact hT.len))
  go_wp2
  go_region_held3 (fun W' => ∀ i : Nat, W'.cell? ⟨w.heap.size, i, none⟩ = ([.int .i32 b.x0, .int .i32 b.y0, .int .i32 b.x1, .int .i32 b.y1] : List Value)[i]?) (first | with_reducible assumption | exact cX) (first
    | (go_at_call 29; (first | (with_reducible refine (HLen1.out _ HA.out).mono ?_) | (with_reducible refine (HLen2.out _ HA.out).mono ?_)); rintro e w1 ⟨rfl, hk⟩; have hA' := HA.out.same hk; have hS := hA'.1.cell; have HA := Lib.hid hA'; have HV := Lib.hid (Kept.kd HV.out hk); clear hA'; clear hk)
    | (go_at_call 23; (with_reducible refine (range_any _ _ _ _ _ _).mono ?_); rintro e w1 ⟨B1, B2, rfl, hb1, hb2, hk, _, _⟩; have hA' := HA.out.same hk; have hS := hA'.1.cell; have HA := Lib.hid hA'; have HV := Lib.hid (Kept.kd HV.out hk); clear hA'; (first | have HQ := Lib.hid (any_told1 _ _ _ _ _ _ _ HA.out B1 B2 ⟨b.x0, b.y0, b.x1, b.y1⟩ hb1 hb2) | have HQ := Lib.hid (any_told2 _ _ _ _ _ _ _ HA.out B1 B2 ⟨b.x0, b.y0, b.x1, b.y1⟩ hb1 hb2)); clear hk hb1 hb2)
    | (go_at_call 32; (with_reducible refine (at_any _ _ _ _).mono ?_); rintro e w1 ⟨B1, B2, rfl, hb1, hb2, hk, _, _⟩; have hA' := HA.out.same hk; have hS := hA'.1.cell; have HA := Lib.hid hA'; have HV := Lib.hid (Kept.kd HV.out hk); clear hA'; (first | have HQ := Lib.hid (any_told1 _ _ _ _ _ _ _ HA.out B1 B2 ⟨b.x0, b.y0, b.x0, b.y0⟩ hb1 hb2) | have HQ := Lib.hid (any_told2 _ _ _ _ _ _ _ HA.out B1 B2 ⟨b.x0, b.y0, b.x0, b.y0⟩ hb1 hb2)); clear hk hb1 hb2)
    | (go_at_call 33; (with_reducible refine (crossing_any _ _ _ _ _ _).mono ?_); rintro e w1 ⟨B1, B2, rfl, hb1, hb2, hk, _, _⟩; have hA' := HA.out.same hk; have hS := hA'.1.cell; have HA := Lib.hid hA'; have HV := Lib.hid (Kept.kd HV.out hk); clear hA'; (first | have HQ := Lib.hid (any_told1 _ _ _ _ _ _ _ HA.out B1 B2 ⟨min b.x0 b.x1, min b.y0 b.y1, max b.x0 b.x1, max b.y0 b.y1⟩ hb1 hb2) | have HQ := Lib.hid (any_told2 _ _ _ _ _ _ _ HA.out B1 B2 ⟨min b.x0 b.x1, min b.y0 b.y1, max b.x0 b.x1, max b.y0 b.y1⟩ hb1 hb2)); clear hk hb1 hb2)
    | (go_at_call 27; (with_reducible refine HQ.out.mono ?_); rintro e w1 ⟨v, rfl, hv, hk⟩; have hA' := HA.out.same hk; have hS := hA'.1.cell; have HA := Lib.hid hA'; have HV := Lib.hid (Kept.kd HV.out hk); clear hA'; have HV := Lib.hid (Kept.add HV.out hv); clear hk hv HQ)
    | (go_at_call 26; (refine (HSame.out _ _ _ _ (HV.out _ (.tail _ (.head _))) (HV.out _ (.head _))).mono ?_); rintro e w1 ⟨rfl, hk⟩; have hA' := HA.out.same hk; have hS := hA'.1.cell; have HA := Lib.hid hA'; have HV := Lib.hid (Kept.kd HV.out hk); clear hA'; clear hk))
  all_goals
    go_wp2
    go_ret
    exact ⟨rfl, HA.out.2.1⟩
theorem any_any (w : World) (v0 v1 : Value) (l : List (Nat × Bx)) (os : List Int) (b : Bx) (h0 : Rows5 w v0 l) (h1 : Ints64 w v1 os) (hl : l.length ≤ maxLen) (ho : os.length ≤ maxLen) :
    Calls Try.prog 10 #[v0, v1, .agg #[.int .i32 b.x0, .int .i32 b.y0, .int .i32 b.x1, .int .i32 b.y1]] w (Said w) := by
  obtain ⟨a0, c0, rfl, hE, hRow⟩ := h0
  obtain ⟨a1, c1, rfl, hZ, hInt⟩ := h1
  by_cases h : (300 : Int) < l.length ∨ (300 : Int) < os.length
  · exact any_long w a0 a1 _ _ c0 c1 b h
  · exact any_main w a0 a1 c0 c1 l os b ⟨_, _, rfl, hE, hRow⟩ ⟨_, _, rfl, hZ, hInt⟩ (by omega) (by omega)
end Tree
end Go.Proofs.Ytndghakagogmcaa
