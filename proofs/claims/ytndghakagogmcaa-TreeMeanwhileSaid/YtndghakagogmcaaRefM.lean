/-
  RefM: Del whole; both side by side.
-/
import Derived.Test.YtndghakagogmcaaRefK
import Derived.Test.YtndghakagogmcaaRefL
namespace Go.Proofs.Ytndghakagogmcaa
open Go.RowKit Go.Shelf
set_option linter.unusedVariables false
set_option linter.unusedSimpArgs false
attribute [local go_sem] Oper.semAt_some
namespace Tree
open Mem BT
theorem rdelA_any (w : World) (R gi ci n pos : Nat) (sb : Value) (xs : List Value) (hR : Blk w R 54 [.slice (some ⟨gi, 0, none⟩) n ci, sb]) (hI : w.ownsRow 0 32 1 (.slice (some ⟨gi, 0, none⟩) n ci) n xs) (h1 : ∀ u ∈ xs, u.oneCell' = true) (hp : pos < n) (hn : (n : Int) ≤ 65536) (hc : n ≤ ci)
    (a : Act) (hF : Fr a 49 [(0, .pointer (some ⟨R, 0, none⟩)), (5, .int .i64 (pos : Int))]) : rdelAC.wp Try.prog (Outs (fun a2 w2 => Fr a2 49 [(0, .pointer (some ⟨R, 0, none⟩)), (5, .int .i64 (pos : Int))] ∧ DelPost0 R gi ci n pos sb xs w w2) (fun _ _ _ => False) (fun _ _ => False)) a w := by
  by_cases hce : ci = pos + 1
  · obtain rfl : n = pos + 1 := by omega
    subst hce
    exact rdelA_near w R gi pos sb xs hR hI h1 (by omega) a hF
  · exact rdelA_far w R gi ci n pos sb xs hR hI h1 hp hn hc hce a hF
theorem rdelB_any (w : World) (R gi ci n pos : Nat) (sb : Value) (xs : List Value) (hR : Blk w R 54 [sb, .slice (some ⟨gi, 0, none⟩) n ci]) (hI : w.ownsRow 0 47 4 (.slice (some ⟨gi, 0, none⟩) n ci) n xs) (h1 : ∀ u ∈ xs, u.oneCell' = true) (hp : pos < n) (hn : (n : Int) ≤ 65536) (hc : n ≤ ci)
    (a : Act) (hF : Fr a 49 [(0, .pointer (some ⟨R, 0, none⟩)), (5, .int .i64 (pos : Int))]) : rdelBC.wp Try.prog (Outs (fun a2 w2 => Fr a2 49 [(0, .pointer (some ⟨R, 0, none⟩)), (5, .int .i64 (pos : Int))] ∧ DelPost1 R gi ci n pos sb xs w w2) (fun _ _ _ => False) (fun _ _ => False)) a w := by
  by_cases hce : ci = pos + 1
  · obtain rfl : n = pos + 1 := by omega
    subst hce
    exact rdelB_near w R gi pos sb xs hR hI h1 (by omega) a hF
  · exact rdelB_far w R gi ci n pos sb xs hR hI h1 hp hn hc hce a hF
theorem own_cap {w : World} {e : TypeId} {size g n cap : Nat} {xs : List Value} (h : w.ownsRow 0 e size (.slice (some ⟨g, 0, none⟩) n cap) n xs) : n ≤ cap := by
  rcases h.2 with ⟨h, _⟩ | ⟨g', c', cur, hv, _, _, hc, _⟩
  · simp at h
  · simp only [Value.slice.injEq] at hv
    rw [hv.2.2]; exact hc
theorem idCells_one (L : List (Nat × Bx)) : ∀ u ∈ idCells L, u.oneCell' = true := fun u hu => by
  simp [idCells, u32s] at hu
  obtain ⟨_, _, rfl⟩ := hu
  rfl
theorem boxCells_one (L : List (Nat × Bx)) : ∀ u ∈ boxCells L, u.oneCell' = true := fun u hu => by
  simp only [boxCells, List.mem_flatMap] at hu
  obtain ⟨p, _, h⟩ := hu
  simp only [boxCs, List.mem_cons, List.not_mem_nil, or_false] at h
  rcases h with rfl | rfl | rfl | rfl <;> rfl
set_option maxHeartbeats 4000000 in
set_option maxRecDepth 100000 in
theorem rdel_no (R : Nat) (S : Nat → Prop) (L : List (Nat × Bx)) (id : Nat) (w : World) (h : RefS w R S L) (h2 : hasL L id = false) :
    Calls Try.prog 25 #[.pointer (some ⟨R, 0, none⟩), .int .u32 (id : Int)] w (DidR R S (141, L) w) := by
  have HS := Lib.hid h
  obtain ⟨pos, hpos⟩ : ∃ p : Nat, p = posL L id := ⟨_, rfl⟩
  have HPl := Lib.hid (place_t R S L id w h)
  rw [← hpos, h2] at HPl
  clear h hpos
  go_enter Try.func25, Try.ntmps25
  go_wp2_with (go_at_call 45; (with_reducible refine HPl.out.mono ?_); rintro e w2 ⟨rfl, hk⟩; have HK2 := Lib.hid hk; clear hk)
  go_ret
  exact DidR.same HS.out HK2.out _
set_option maxHeartbeats 4000000 in
set_option maxRecDepth 100000 in
theorem rdel_yes (R : Nat) (S : Nat → Prop) (L : List (Nat × Bx)) (id : Nat) (w : World) (h : RefS w R S L) (h2 : hasL L id = true) :
    Calls Try.prog 25 #[.pointer (some ⟨R, 0, none⟩), .int .u32 (id : Int)] w (DidR R S (0, delL id L) w) := by
  have HS := Lib.hid h
  obtain ⟨pos, hpos⟩ : ∃ p : Nat, p = posL L id := ⟨_, rfl⟩
  have HPl := Lib.hid (place_t R S L id w h)
  rw [← hpos, h2] at HPl
  obtain ⟨ai, ci, ab, cb, hr2, hri, hel, hln, hSS⟩ := h
  have hp := look_pos hri h2
  rw [← hpos] at hp
  have hpl := (List.getElem?_eq_some_iff.1 hp).1
  obtain ⟨gi, rfl, _⟩ := hr2.id_at hp
  obtain ⟨gb, rfl, _⟩ := hr2.box_at hp
  obtain ⟨n, hn⟩ : ∃ n : Nat, n = L.length := ⟨_, rfl⟩
  have H2 := Lib.hid hr2
  have HN := Lib.hid (And.intro hn (And.intro hpos (And.intro hpl (And.intro hri (And.intro hel (And.intro hln hSS))))))
  clear hr2 hri hel hln hSS hp hpl hn hpos
  go_enter Try.func25, Try.ntmps25
  go_wp2_with (go_at_call 45; (with_reducible refine HPl.out.mono ?_); rintro e w2 ⟨rfl, hk⟩; have HK2 := Lib.hid hk; clear hk)
  obtain ⟨hn, hpos, hpl, hri, hel, hln, hSS⟩ := HN.out
  have k2 := HK2.out
  have hR2 := H2.out.1.kd k2
  have hI2 := owns_keeps H2.out.2.1 k2 (fun _ _ h => h)
  have hB2 := owns_keeps H2.out.2.2 k2 (fun _ _ h => h)
  rw [← hn] at hR2 hI2 hB2 hln hpl hSS
  have hnI : (n : Int) ≤ 65536 := by omega
  refine wp_mono (rdelA_any w2 R gi ci n pos _ (idCells L) hR2 hI2 (idCells_one L) hpl hnI (own_cap hI2) _ ⟨rfl, rfl, by simp⟩) ?_
  refine Outs.mono ?_ (fun _ _ _ h => h.elim) (fun _ _ h => h.elim)
  rintro a w3 ⟨hF, hR3, hI3, hk3⟩
  have hgR : R ≠ gi := fun e => by have := own_ne hI2 hR2 (by decide); simp [Value.ownBlock] at this; exact this e
  have hgb : R ≠ gb := fun e => by have := own_ne hB2 hR2 (by decide); simp [Value.ownBlock] at this; exact this e
  have hib : gi ≠ gb := fun e => by
    have := (rows_ne hI2 hB2 (by decide)).resolve_left (by simp [Value.ownBlock])
    simp [Value.ownBlock] at this
    exact this e
  have hB3 := owns_keeps hB2 hk3 (fun k hk h => by simp [Value.ownBlock] at hk; subst hk; rcases h with h | h; exact hgb h.symm; exact hib h.symm)
  have HR3 := Lib.hid hR3
  have HI3 := Lib.hid hI3
  have HB3 := Lib.hid hB3
  have HK3 := Lib.hid ((k2.mono (fun k _ h => h.elim) : Keeps (fun k => k = R ∨ k = gi) w w2).trans hk3)
  have HN2 := Lib.hid (And.intro hgR (And.intro hgb (And.intro hib (And.intro hpl hnI))))
  clear hR3 hI3 hB3 hgR hgb hib hR2 hI2 hB2 k2 hk3 hn hpos hpl hri hel hln hSS hnI
  revert hF
  refine fun hF => frames49 (P := fun a => Fr a 49 [(0, .pointer (some ⟨R, 0, none⟩)), (5, .int .i64 (pos : Int))] → Exit.then _ _ _ a w3) ?_ a hF.1 hF.2.1 hF
  intro u0 u1 u2 u3 u4 u5 u6 u7 u8 u9 u10 u11 u12 u13 u14 u15 u16 u17 u18 u19 u20 u21 u22 u23 u24 u25 u26 u27 u28 u29 u30 u31 u32 u33 u34 u35 u36 u37 u38 u39 u40 u41 u42 u43 u44 u45 u46 u47 u48 hF
  obtain rfl : u0 = .pointer (some ⟨R, 0, none⟩) := hF.at_ 0 _ (by simp)
  obtain rfl : u5 = .int .i64 (pos : Int) := hF.at_ 5 _ (by simp)
  clear hF
  dsimp only
  go_wp2
  refine wp_mono (rdelB_any w3 R gb cb n pos _ (boxCells L) HR3.out HB3.out (boxCells_one L) HN2.out.2.2.2.1 HN2.out.2.2.2.2 (own_cap HB3.out) _ ⟨rfl, rfl, by simp⟩) ?_
  refine Outs.mono ?_ (fun _ _ _ h => h.elim) (fun _ _ h => h.elim)
  rintro a w4 ⟨hF, hR4, hB4, hk4⟩
  have HR4 := Lib.hid hR4
  have HB4 := Lib.hid hB4
  have HK4 := Lib.hid hk4
  clear hR4 hB4 hk4
  revert hF
  refine fun hF => frames49 (P := fun a => Fr a 49 [(0, .pointer (some ⟨R, 0, none⟩)), (5, .int .i64 (pos : Int))] → Exit.then _ _ _ a w4) ?_ a hF.1 hF.2.1 hF
  intro u0 u1 u2 u3 u4 u5 u6 u7 u8 u9 u10 u11 u12 u13 u14 u15 u16 u17 u18 u19 u20 u21 u22 u23 u24 u25 u26 u27 u28 u29 u30 u31 u32 u33 u34 u35 u36 u37 u38 u39 u40 u41 u42 u43 u44 u45 u46 u47 u48 hF
  obtain rfl : u0 = .pointer (some ⟨R, 0, none⟩) := hF.at_ 0 _ (by simp)
  obtain rfl : u5 = .int .i64 (pos : Int) := hF.at_ 5 _ (by simp)
  clear hF
  dsimp only
  go_wp2
  go_ret
  obtain ⟨hn, hpos, hpl, hri, hel, hln, hSS⟩ := HN.out
  rw [← hn] at hSS
  obtain ⟨hgR, hgb, hib, _, hnI⟩ := HN2.out
  have hI4 := owns_keeps HI3.out HK4.out (fun k hk h => by simp [Value.ownBlock] at hk; subst hk; rcases h with h | h; exact hgR h.symm; exact hib h)
  have hD := delL_pos hri h2
  rw [← hpos] at hD
  have hDl : (delL id L).length = n - 1 := by rw [hD, List.length_append, List.length_take, List.length_drop]; omega
  have hK : Keeps S w w4 := by
    refine (HK3.out.mono (fun k _ h => ?_)).then HK4.out (fun k _ h => ?_)
    · rcases h with rfl | rfl
      · exact (hSS _).2 (.inl rfl)
      · exact (hSS _).2 (.inr (.inl (by simp [Value.ownBlock])))
    · rcases h with rfl | rfl
      · exact (hSS _).2 (.inl rfl)
      · exact (hSS _).2 (.inr (.inr (by simp [Value.ownBlock])))
  refine ⟨rfl, S, Foot.same hK, some ⟨gi, 0, none⟩, ci, some ⟨gb, 0, none⟩, cb, ?_, delL_rising id hri, fun p hp => hel p (by unfold delL at hp; exact (List.mem_filter.1 hp).1), by show (delL id L).length ≤ 65536; omega, ?_⟩
  · unfold Ref2
    rw [hDl]
    refine ⟨HR4.out, ?_, ?_⟩
    · rw [hD, ← idCells_cut]; exact hI4
    · rw [hD, ← boxCells_cut]; exact HB4.out
  · intro k
    rw [hSS]
    simp [Value.ownBlock]
theorem rdel_t (R : Nat) (S : Nat → Prop) (L : List (Nat × Bx)) (id : Nat) (w : World) (h : RefS w R S L) :
    Calls Try.prog 25 #[.pointer (some ⟨R, 0, none⟩), .int .u32 (id : Int)] w (DidR R S (delR L id) w) := by
  unfold delR
  cases h2 : hasL L id with
  | true => exact rdel_yes R S L id w h h2
  | false => exact rdel_no R S L id w h h2
end Tree
end Go.Proofs.Ytndghakagogmcaa
namespace Go.Proofs.Ytndghakagogmcaa
open Go.RowKit Go.Shelf
set_option linter.unusedVariables false
set_option linter.unusedSimpArgs false
attribute [local go_sem] Oper.semAt_some
namespace Tree
open Mem BT
/-- the tree T is the list L1, the answer R the list L2; what is Far reads as it did in V. -/
def PairSt (Far : Nat → Prop) (V W : World) (T R : Nat) (L1 L2 : List (Nat × Bx)) : Prop :=
  Keeps (fun k => ¬ Far k) V W ∧ (∀ k, Far k → k < V.heap.size) ∧ ∃ S1 S2, TrS W T S1 L1 ∧ RefS W R S2 L2 ∧ (∀ k, S1 k → ¬ S2 k ∧ ¬ Far k) ∧ (∀ k, S2 k → ¬ Far k)
section
variable {Far Far' : Nat → Prop} {V V' W W' : World} {T R : Nat} {L1 L2 : List (Nat × Bx)}
theorem PairSt.same (h : PairSt Far V W T R L1 L2) (hk : Keeps (fun _ => False) W W') : PairSt Far V W' T R L1 L2 := by
  obtain ⟨h1, h0, S1, S2, h3, h4, h5, h6⟩ := h
  exact ⟨h1.trans (hk.mono (fun _ _ h => h.elim)), h0, S1, S2, h3.kd hk, h4.kd hk, h5, h6⟩
theorem PairSt.tree (h : PairSt Far V W T R L1 L2) : ∃ S1, TrS W T S1 L1 := by
  obtain ⟨h1, h0, S1, S2, h3, h4, h5, h6⟩ := h
  exact ⟨S1, h3⟩
theorem PairSt.ref (h : PairSt Far V W T R L1 L2) : ∃ S2, RefS W R S2 L2 := by
  obtain ⟨h1, h0, S1, S2, h3, h4, h5, h6⟩ := h
  exact ⟨S2, h4⟩
theorem PairSt.one (h : PairSt Far V W T R L1 L2) : ∃ S1, TrS W T S1 L1 ∧ ∀ p e W', Did T S1 p W e W' → e = .returned (.int .i64 p.1) ∧ PairSt Far V W' T R p.2 L2 := by
  obtain ⟨h1, h0, S1, S2, h3, h4, h5, h6⟩ := h
  refine ⟨S1, h3, ?_⟩
  rintro p e W' ⟨rfl, S1', hf, hT⟩
  have i2 := h4.inb
  have hz := h1.size
  refine ⟨rfl, h1.trans (hf.1.mono (fun k _ hs => (h5 k hs).2)), h0, S1', S2, hT, h4.keeps hf.1 (fun k hk hs => (h5 k hs).1 hk), fun k hk => ?_, h6⟩
  rcases hf.2 k hk with hk | hk
  · exact h5 k hk
  · exact ⟨fun hs => by have := i2 k hs; omega, fun hs => by have := h0 k hs; omega⟩
theorem PairSt.two (h : PairSt Far V W T R L1 L2) : ∃ S2, RefS W R S2 L2 ∧ ∀ p e W', DidR R S2 p W e W' → e = .returned (.int .i64 p.1) ∧ PairSt Far V W' T R L1 p.2 := by
  obtain ⟨h1, h0, S1, S2, h3, h4, h5, h6⟩ := h
  refine ⟨S2, h4, ?_⟩
  rintro p e W' ⟨rfl, S2', hf, hR⟩
  have i1 := h3.inb
  have hz := h1.size
  refine ⟨rfl, h1.trans (hf.1.mono (fun k _ hs => h6 k hs)), h0, S1, S2', h3.keeps hf.1 (fun k hk hs => (h5 k hk).1 hs), hR, fun k hk => ⟨fun hs => ?_, (h5 k hk).2⟩, fun k hk => ?_⟩
  · rcases hf.2 k hs with hs | hs
    · exact (h5 k hk).1 hs
    · have := i1 k hk; omega
  · rcases hf.2 k hk with hk | hk
    · exact h6 k hk
    · exact fun hs => by have := h0 k hs; omega
/-- another world to look back to -/
theorem PairSt.base (h : PairSt Far' V' W T R L1 L2) (h0 : Keeps (fun k => ¬ Far k) V V') (hs : ∀ k, Far k → Far' k) (hF : ∀ k, Far k → k < V.heap.size) : PairSt Far V W T R L1 L2 := by
  obtain ⟨h1, _, S1, S2, h3, h4, h5, h6⟩ := h
  exact ⟨h0.trans (h1.mono (fun k _ hk hf => hk (hs k hf))), hF, S1, S2, h3, h4, fun k hk => ⟨(h5 k hk).1, fun hf => (h5 k hk).2 (hs k hf)⟩, fun k hk hf => h6 k hk (hs k hf)⟩
/-- a new block is Far too -/
theorem PairSt.more (h : PairSt Far V W T R L1 L2) (o : Obj) : PairSt (fun k => Far k ∨ k = W.heap.size) (W.alloc o) (W.alloc o) T R L1 L2 ∧ Keeps (fun k => ¬ Far k) V (W.alloc o) ∧ (∀ k, Far k → k < V.heap.size) := by
  obtain ⟨h1, h0, S1, S2, h3, h4, h5, h6⟩ := h
  have hz := h1.size
  have k1 := (Keeps.refl (fun _ => False) W).alloc o
  refine ⟨⟨Keeps.refl _ _, fun k hk => ?_, S1, S2, h3.kd k1, h4.kd k1, fun k hk => ⟨(h5 k hk).1, fun hf => ?_⟩, fun k hk hf => ?_⟩, h1.alloc o, h0⟩
  · simp
    rcases hk with hk | hk
    · have := h0 k hk; omega
    · omega
  · rcases hf with hf | hf
    · exact (h5 k hk).2 hf
    · have := h3.inb k hk; omega
  · rcases hf with hf | hf
    · exact h6 k hk hf
    · have := h4.inb k hk; omega
theorem ps_put (h : PairSt Far V W T R L1 L2) (id : Nat) (b : Bx) (hid : El32 (id, b)) : Calls Try.prog 20 #[.pointer (some ⟨T, 0, none⟩), .int .u32 (id : Int), .agg #[.int .i32 b.x0, .int .i32 b.y0, .int .i32 b.x1, .int .i32 b.y1]] W (fun e W' => e = .returned (.int .i64 (putR L1 id b).1) ∧ PairSt Far V W' T R (putR L1 id b).2 L2) := by
  obtain ⟨S1, hT, hd⟩ := h.one
  exact (put_t T S1 L1 id b W hT hid).mono fun e W' h => hd _ e W' h
theorem ps_rput (h : PairSt Far V W T R L1 L2) (id : Nat) (b : Bx) (hid : El32 (id, b)) : Calls Try.prog 21 #[.pointer (some ⟨R, 0, none⟩), .int .u32 (id : Int), .agg #[.int .i32 b.x0, .int .i32 b.y0, .int .i32 b.x1, .int .i32 b.y1]] W (fun e W' => e = .returned (.int .i64 (putR L2 id b).1) ∧ PairSt Far V W' T R L1 (putR L2 id b).2) := by
  obtain ⟨S2, hR, hd⟩ := h.two
  exact (rput_t R S2 L2 id b W hR hid).mono fun e W' h => hd _ e W' h
theorem ps_del (h : PairSt Far V W T R L1 L2) (id : Nat) (hid : id < 4294967296) : Calls Try.prog 24 #[.pointer (some ⟨T, 0, none⟩), .int .u32 (id : Int)] W (fun e W' => e = .returned (.int .i64 (delR L1 id).1) ∧ PairSt Far V W' T R (delR L1 id).2 L2) := by
  obtain ⟨S1, hT, hd⟩ := h.one
  exact (del_t T S1 L1 id W hT hid).mono fun e W' h => hd _ e W' h
theorem ps_rdel (h : PairSt Far V W T R L1 L2) (id : Nat) : Calls Try.prog 25 #[.pointer (some ⟨R, 0, none⟩), .int .u32 (id : Int)] W (fun e W' => e = .returned (.int .i64 (delR L2 id).1) ∧ PairSt Far V W' T R L1 (delR L2 id).2) := by
  obtain ⟨S2, hR, hd⟩ := h.two
  exact (rdel_t R S2 L2 id W hR).mono fun e W' h => hd _ e W' h
theorem ps_box (h : PairSt Far V W T R L1 L2) (id : Nat) (hid : id < 4294967296) : Calls Try.prog 31 #[.pointer (some ⟨T, 0, none⟩), .int .u32 (id : Int)] W (Gave (boxR2 L1 id) W) := by
  obtain ⟨S1, hT⟩ := h.tree
  exact box_t T S1 L1 id W hT hid
theorem ps_rbox (h : PairSt Far V W T R L1 L2) (id : Nat) : Calls Try.prog 54 #[.pointer (some ⟨R, 0, none⟩), .int .u32 (id : Int)] W (Gave (boxR2 L2 id) W) := by
  obtain ⟨S2, hR⟩ := h.ref
  exact rbox_t R S2 L2 id W hR
def ToldC (most : Int) (L : List (Nat × Bx)) (c : Bx) (w : World) (e : Ending) (w' : World) : Prop := ∃ v, e = .returned v ∧ U32s w' v (cut most (rangeL L c)) ∧ Keeps (fun _ => False) w w'
theorem ps_told (h : PairSt Far V W T R L1 L2) (B1 B2 : Nat) (c : Bx) (most : Int) (h1 : Blk W B1 48 [.pointer (some ⟨T, 0, none⟩)]) (h2 : Blk W B2 47 [.int .i32 c.x0, .int .i32 c.y0, .int .i32 c.x1, .int .i32 c.y1]) :
    Calls Try.prog 27 #[.func (.func 47) #[] #[.pointer (some ⟨B1, 0, none⟩), .pointer (some ⟨B2, 0, none⟩)], .int .i64 most] W (ToldC most L1 c W) := by
  obtain ⟨S, hT⟩ := h.tree
  refine (told_tree W T S L1 B1 B2 c most h1 h2 hT).mono ?_
  rintro e w' ⟨v, rfl, ho, hk⟩
  exact ⟨v, rfl, U32s.of_own ho, hk⟩
theorem ps_rrange (h : PairSt Far V W T R L1 L2) (c : Bx) : Calls Try.prog 22 #[.pointer (some ⟨R, 0, none⟩), .agg #[.int .i32 c.x0, .int .i32 c.y0, .int .i32 c.x1, .int .i32 c.y1]] W (ToldC 0 L2 c W) := by
  obtain ⟨S, hR⟩ := h.ref
  refine (rrange_t R S L2 c W hR).mono ?_
  rintro e w' ⟨v, rfl, ho, hk⟩
  exact ⟨v, rfl, U32s.of_own ho, hk⟩
theorem ps_rat (h : PairSt Far V W T R L1 L2) (x y : Int) : Calls Try.prog 55 #[.pointer (some ⟨R, 0, none⟩), .agg #[.int .i32 x, .int .i32 y]] W (ToldC 0 L2 ⟨x, y, x, y⟩ W) := by
  obtain ⟨S, hR⟩ := h.ref
  refine (rat_t R S L2 x y W hR).mono ?_
  rintro e w' ⟨v, rfl, ho, hk⟩
  exact ⟨v, rfl, U32s.of_own ho, hk⟩
theorem ps_rcross (h : PairSt Far V W T R L1 L2) (px py qx qy : Int) : Calls Try.prog 56 #[.pointer (some ⟨R, 0, none⟩), .agg #[.int .i32 px, .int .i32 py], .agg #[.int .i32 qx, .int .i32 qy]] W (ToldC 0 L2 ⟨min px qx, min py qy, max px qx, max py qy⟩ W) := by
  obtain ⟨S, hR⟩ := h.ref
  refine (rcross_t R S L2 px py qx qy W hR).mono ?_
  rintro e w' ⟨v, rfl, ho, hk⟩
  exact ⟨v, rfl, U32s.of_own ho, hk⟩
theorem ps_all (h : PairSt Far V W T R L1 L1) : Calls Try.prog 28 #[.pointer (some ⟨T, 0, none⟩), .pointer (some ⟨R, 0, none⟩)] W (Gave (.bool true) W) := by
  obtain ⟨h1, h0, S1, S2, h3, h4, h5, h6⟩ := h
  refine (all_both T R S1 S2 L1 W h3 h4).mono ?_
  rintro e w' ⟨rfl, hk⟩
  exact ⟨rfl, hk⟩
theorem ps_len (h : PairSt Far V W T R L1 L2) : Calls Try.prog 29 #[.pointer (some ⟨T, 0, none⟩)] W (Gave (.int .i64 (L1.length : Int)) W) := by
  obtain ⟨S, hT⟩ := h.tree
  refine (len_t T S L1 W hT).mono ?_
  rintro e w' ⟨rfl, rfl⟩
  exact ⟨rfl, Keeps.refl _ _⟩
theorem PairSt.small (h : PairSt Far V W T R L1 L2) : L1.length ≤ 65536 := by
  obtain ⟨S, hT⟩ := h.tree
  exact hT.len
theorem cut_le (most : Int) (xs : List Nat) : (cut most xs).length ≤ xs.length := by
  unfold cut
  split
  · exact List.length_take_le' _ _
  · exact Nat.le_refl _
theorem ps_same (most : Int) (L : List (Nat × Bx)) (hL : L.length ≤ 65536) (W : World) (v1 v2 : Value) (c : Bx) (h1 : U32s W v1 (cut most (rangeL L c))) (h2 : U32s W v2 (cut most (rangeL L c))) : Calls Try.prog 26 #[v1, v2] W (Gave (.bool true) W) := by
  have h := range_len L c
  have h' := cut_le most (rangeL L c)
  refine (same_t v1 v2 _ _ W h1 h2 (by omega) (by omega)).mono ?_
  rintro e w' ⟨rfl, hk⟩
  exact ⟨by simp, hk⟩
end
end Tree
end Go.Proofs.Ytndghakagogmcaa
