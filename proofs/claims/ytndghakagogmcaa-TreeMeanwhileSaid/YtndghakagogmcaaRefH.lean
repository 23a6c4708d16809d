/-
  RefH: the document's answer: Put.
-/
import Derived.Test.YtndghakagogmcaaRefF
namespace Go.Proofs.Ytndghakagogmcaa
open Go.RowKit Go.Shelf
set_option linter.unusedVariables false
set_option linter.unusedSimpArgs false
attribute [local go_sem] Oper.semAt_some
namespace Tree
open Mem BT
theorem boxInfo : (Try.prog.info? 47).map (fun i => (i.zero, i.size, i.bytes)) = some (some (.agg #[.int .i32 0, .int .i32 0, .int .i32 0, .int .i32 0]), 4, 16) := by kernel_rfl
theorem rows_ne {w : World} {b1 b2 : Nat} {e1 e2 : TypeId} {s1 s2 n1 n2 : Nat} {v1 v2 : Value} {x1 x2 : List Value} (h1 : w.ownsRow b1 e1 s1 v1 n1 x1) (h2 : w.ownsRow b2 e2 s2 v2 n2 x2) (hne : e1 ≠ e2) : v1.ownBlock = none ∨ v1.ownBlock ≠ v2.ownBlock := by
  rcases h1.2 with ⟨rfl, _⟩ | ⟨g1, c1, cur1, rfl, _, g2, _⟩
  · exact .inl rfl
  · refine .inr fun e => ?_
    rcases h2.2 with ⟨rfl, _⟩ | ⟨g3, c3, cur3, rfl, _, g4, _⟩
    · simp [Value.ownBlock] at e
    · simp [Value.ownBlock] at e
      rw [← e, g2] at g4
      simp at g4
      exact hne g4.2
theorem rsh_end (w : World) (R id BB pos : Nat) (N : Act → World → Prop) (Rt : Act → World → Prop) (a : Act) (hF : Fr a 98 [(0, .pointer (some ⟨R, 0, none⟩)), (1, .int .u32 (id : Int)), (5, .pointer (some ⟨BB, 0, none⟩)), (7, .int .i64 (pos : Int)), (9, .int .i64 (pos : Int))]) :
    rsh.wp Try.prog (Outs N (fun x a' w' => x = 0 ∧ w' = w ∧ Fr a' 98 [(0, .pointer (some ⟨R, 0, none⟩)), (1, .int .u32 (id : Int)), (5, .pointer (some ⟨BB, 0, none⟩)), (7, .int .i64 (pos : Int))]) Rt) a w := by
  revert hF
  refine fun hF => frames98 (P := fun a => Fr a 98 [(0, .pointer (some ⟨R, 0, none⟩)), (1, .int .u32 (id : Int)), (5, .pointer (some ⟨BB, 0, none⟩)), (7, .int .i64 (pos : Int)), (9, .int .i64 (pos : Int))] → rsh.wp Try.prog (Outs N (fun x a' w' => x = 0 ∧ w' = w ∧ Fr a' 98 [(0, .pointer (some ⟨R, 0, none⟩)), (1, .int .u32 (id : Int)), (5, .pointer (some ⟨BB, 0, none⟩)), (7, .int .i64 (pos : Int))]) Rt) a w) ?_ a hF.1 hF.2.1 hF
  intro u0 u1 u2 u3 u4 u5 u6 u7 u8 u9 u10 u11 u12 u13 u14 u15 u16 u17 u18 u19 u20 u21 u22 u23 u24 u25 u26 u27 u28 u29 u30 u31 u32 u33 u34 u35 u36 u37 u38 u39 u40 u41 u42 u43 u44 u45 u46 u47 u48 u49 u50 u51 u52 u53 u54 u55 u56 u57 u58 u59 u60 u61 u62 u63 u64 u65 u66 u67 u68 u69 u70 u71 u72 u73 u74 u75 u76 u77 u78 u79 u80 u81 u82 u83 u84 u85 u86 u87 u88 u89 u90 u91 u92 u93 u94 u95 u96 u97 hF
  obtain rfl : u0 = .pointer (some ⟨R, 0, none⟩) := hF.at_ 0 _ (by simp)
  obtain rfl : u1 = .int .u32 (id : Int) := hF.at_ 1 _ (by simp)
  obtain rfl : u5 = .pointer (some ⟨BB, 0, none⟩) := hF.at_ 5 _ (by simp)
  obtain rfl : u7 = .int .i64 (pos : Int) := hF.at_ 7 _ (by simp)
  obtain rfl : u9 = .int .i64 (pos : Int) := hF.at_ 9 _ (by simp)
  clear hF
  conv => arg 2; whnf
  go_wp2
  exact ⟨rfl, rfl, rfl, rfl, by simp⟩
def DidR (R : Nat) (S : Nat → Prop) (p : Int × List (Nat × Bx)) (w : World) (e : Ending) (w' : World) : Prop :=
  e = .returned (.int .i64 p.1) ∧ ∃ S', Foot S S' w w' ∧ RefS w' R S' p.2
theorem DidR.same {R : Nat} {S : Nat → Prop} {L : List (Nat × Bx)} {w w' : World} (h : RefS w R S L) (hk : Keeps (fun _ => False) w w') (c : Int) : DidR R S (c, L) w (.returned (.int .i64 c)) w' :=
  ⟨rfl, S, Foot.same (hk.mono (fun _ _ h => h.elim)), h.kd hk⟩
set_option maxHeartbeats 8000000 in
set_option maxRecDepth 100000 in
theorem rput_ok (R : Nat) (S : Nat → Prop) (L : List (Nat × Bx)) (id : Nat) (b : Bx) (w : World) (h : RefS w R S L) (hid : El32 (id, b)) (h1 : b.right = true) (h2 : hasL L id = false) (h3 : L.length < 65536) :
    Calls Try.prog 21 #[.pointer (some ⟨R, 0, none⟩), .int .u32 (id : Int), .agg #[.int .i32 b.x0, .int .i32 b.y0, .int .i32 b.x1, .int .i32 b.y1]] w (DidR R S (0, putL id b L) w) := by
  have HS := Lib.hid h
  obtain ⟨ai, ci, ab, cb, hr2, hri, hel, hln, hSS⟩ := h
  obtain ⟨pos, hpos⟩ : ∃ p : Nat, p = posL L id := ⟨_, rfl⟩
  obtain ⟨n, hn⟩ : ∃ n : Nat, n = L.length := ⟨_, rfl⟩
  have hnI : (n : Int) < 65536 := by omega
  have hposI : (pos : Int) ≤ n := by have := posL_le id L; omega
  have HN := Lib.hid (And.intro hn hpos)
  have HH1 := Lib.hid h1
  have H2 := Lib.hid hr2
  have HX := Lib.hid (Blk.new w 47 [.int .i32 b.x0, .int .i32 b.y0, .int .i32 b.x1, .int .i32 b.y1])
  have HK := Lib.hid ((Keeps.refl (fun _ => False) w).alloc (.cells #[.int .i32 b.x0, .int .i32 b.y0, .int .i32 b.x1, .int .i32 b.y1] 47))
  have HRt := Lib.hid (fun W => (show Calls _ _ _ W (fun e w' => e = .returned (.bool true) ∧ _ = w') from h1 ▸ rright_ex b W))
  have HPl := Lib.hid (fun W (k : Keeps (fun _ => False) w W) => place_t R S L id W (HS.out.kd k))
  rw [h2, ← hpos] at HPl
  obtain ⟨i0, hi0, hz0, hz1, hz2⟩ := info_parts u32Info
  obtain ⟨j0, hj0, hy0, hy1, hy2⟩ := info_parts boxInfo
  have HRI := Lib.hid (And.intro hri (And.intro hel hSS))
  clear hr2 hri hel hln hSS hn hpos h1 h3
  have hge : ((65536 : Int) ≤ (n : Int)) = False := eq_false (by omega)
  have HNI := Lib.hid hnI
  have hw1 : IntKind.i64.wrap ((n : Int) + 1 - 1) = (n : Int) := by rw [Int.add_sub_cancel]; exact IntWalk.i64_in _ (by omega)
  have hw2 : IntKind.i64.wrap (n : Int) = (n : Int) := IntWalk.i64_in _ (by omega)
  clear hnI
  go_enter Try.func21, Try.ntmps21
  go_wp2_with (first
    | (go_at_call 44; (with_reducible refine (HRt.out _).mono ?_); rintro e w1 ⟨rfl, rfl⟩)
    | (go_at_call 45; (with_reducible refine (HPl.out _ (HK.out.alloc _)).mono ?_); rintro e w2 ⟨rfl, hk⟩; have hK2 := (HK.out.alloc _).trans hk; have hR2 := H2.out.1.keeps hK2 (fun h => h); rw [← HN.out.1] at hR2; have cR := hR2.cell; have fR := hR2.frozen; have HR2 := Lib.hid hR2; have HI2 := Lib.hid (owns_keeps H2.out.2.1 hK2 (fun _ _ h => h)); have HB2 := Lib.hid (owns_keeps H2.out.2.2 hK2 (fun _ _ h => h)); rw [← HN.out.1] at HI2 HB2; have HX2 := Lib.hid ((HX.out.alloc _).kd hk); have HK2 := Lib.hid hK2; clear hk hK2 hR2)
    | (at_builtin; refine wpList_append_own_at _ rfl (.tmp 30) (.tmp 31) 51 rfl 0 32 i0 _ 1 4 Try.underlying51 hi0 hz0 hz1 hz2 rfl (by decide) (.slice ai n ci) n (idCells L) rfl (HI2.out.alloc _) ⟨w2.heap.size, 0, none⟩ 1 1 [.int .u32 0] rfl rfl (by exact Mem.news_new w2 _ [_]) (by simp [Value.oneCell']) (by unfold maxLen; have := HNI.out; omega) (by have := HNI.out; omega) (Nat.zero_le _) ?_; intro v' w3 hown hgrow _ hat; obtain ⟨gi, ci', rfl⟩ := ownsRow_succ hown; have hR3 := (HR2.out.alloc (.cells #[.int .u32 0] 32)).grown hgrow (own_ne HI2.out HR2.out (by decide)); have cR3 := hR3.cell; have fR3 := hR3.frozen; have HR3 := Lib.hid hR3; have HG3 := Lib.hid (And.intro hown (And.intro hgrow hat)); have hB3 := (HB2.out.alloc (.cells #[.int .u32 0] 32)).kept hgrow (rows_ne (HB2.out.alloc (.cells #[.int .u32 0] 32)) (HI2.out.alloc (.cells #[.int .u32 0] 32)) (by decide)); have HB3 := Lib.hid (owns_setCell hB3 (p := ⟨R, 0, none⟩) (fun e => own_ne HB2.out HR2.out (by decide) e.symm) (.slice (some ⟨gi, 0, none⟩) (n + 1) ci')); clear cR fR hown hgrow hat hR3 hB3)
    | (at_builtin; refine wpList_append_own_at _ rfl (.tmp 39) (.tmp 41) 52 rfl 0 47 j0 _ 4 16 Try.underlying52 hj0 hy0 hy1 hy2 rfl (by decide) (.slice ab n cb) n (boxCells L) rfl (HB3.out.alloc _) ⟨w3.heap.size, 0, none⟩ 1 1 [.int .i32 0, .int .i32 0, .int .i32 0, .int .i32 0] rfl rfl (by have := Mem.news_new (w3.setCell ⟨R, 0, none⟩ (.slice (some ⟨gi, 0, none⟩) (n + 1) ci')) 47 [.int .i32 0, .int .i32 0, .int .i32 0, .int .i32 0]; simpa [World.setCell] using this) (by simp [Value.oneCell']) (by unfold maxLen; have := HNI.out; omega) (by have := HNI.out; omega) (Nat.zero_le _) ?_; intro v' w4 hown hgrow _ hat; obtain ⟨gb, cb', rfl⟩ := ownsRow_succ hown; have hR3s := HR3.out.set_ 0 (.slice (some ⟨gi, 0, none⟩) (n + 1) ci'); have hR4 := (hR3s.alloc (.cells #[.int .i32 0, .int .i32 0, .int .i32 0, .int .i32 0] 47)).grown hgrow (own_ne HB3.out hR3s (by decide)); have cR4 := hR4.cell; have fR4 := hR4.frozen; have HR4 := Lib.hid hR4; have HG4 := Lib.hid (And.intro hown (And.intro hgrow hat)); clear hown hgrow hat hR3s hR4 cR3 fR3))
  have hst : Sh2 (w4.setCell ⟨R, 1, none⟩ (.slice (some ⟨gb, 0, none⟩) (n + 1) cb')) R gi ci' gb cb' (n + 1) (idsJ L (.int .u32 0) n) (bxsJ L (.int .i32 0) (.int .i32 0) (.int .i32 0) (.int .i32 0) n) := by
    obtain ⟨g1, g2, g3⟩ := HG3.out
    obtain ⟨g4, g5, g6⟩ := HG4.out
    have e1 : idsJ L (.int .u32 0) n = idCells L ++ [.int .u32 0] := by unfold idsJ; rw [HN.out.1, List.take_length, List.drop_length]; rfl
    have e2 : bxsJ L (.int .i32 0) (.int .i32 0) (.int .i32 0) (.int .i32 0) n = boxCells L ++ [.int .i32 0, .int .i32 0, .int .i32 0, .int .i32 0] := by unfold bxsJ; rw [HN.out.1, List.take_length, List.drop_length]; rfl
    rw [e1, e2]
    have g1' := owns_setCell g1 (p := ⟨R, 0, none⟩) (fun e => own_ne g1 HR3.out (by decide) e.symm) (.slice (some ⟨gi, 0, none⟩) (n + 1) ci')
    have hne := rows_ne g1' HB3.out (by decide)
    have g1a := (g1'.alloc (.cells #[.int .i32 0, .int .i32 0, .int .i32 0, .int .i32 0] 47)).kept g5 hne
    exact ⟨by simpa using HR4.out.set_ 1 (.slice (some ⟨gb, 0, none⟩) (n + 1) cb'), owns_setCell g1a (p := ⟨R, 1, none⟩) (fun e => own_ne g1a HR4.out (by decide) e.symm) _, owns_setCell g4 (p := ⟨R, 1, none⟩) (fun e => own_ne g4 HR4.out (by decide) e.symm) _⟩
  have hfoot : Foot S (fun k => k = R ∨ k = gi ∨ k = gb) w (w4.setCell ⟨R, 1, none⟩ (.slice (some ⟨gb, 0, none⟩) (n + 1) cb')) := by
    obtain ⟨g1, g2, g3⟩ := HG3.out
    obtain ⟨g4, g5, g6⟩ := HG4.out
    have hSS := HRI.out.2.2
    rw [← HN.out.1] at hSS
    have hRS : S R := (hSS R).2 (.inl rfl)
    have k3 : Keeps S w w3 := ((HK2.out.mono (fun _ _ h => h.elim)).alloc (.cells #[.int .u32 0] 32)).grown g2 (fun k hk e => (hSS k).2 (.inr (.inl e)))
    have k3s := k3.setCell (p := ⟨R, 0, none⟩) (fun _ => hRS) (.slice (some ⟨gi, 0, none⟩) (n + 1) ci')
    have k4 : Keeps S w w4 := (k3s.alloc (.cells #[.int .i32 0, .int .i32 0, .int .i32 0, .int .i32 0] 47)).grown g5 (fun k hk e => (hSS k).2 (.inr (.inr e)))
    refine ⟨k4.setCell (p := ⟨R, 1, none⟩) (fun _ => hRS) _, ?_⟩
    have hz2 := HK2.out.size
    have hz3 := k3s.size
    rintro k (rfl | rfl | rfl)
    · exact .inl hRS
    · rcases g3 with e | e
      · exact .inl ((hSS _).2 (.inr (.inl (e.symm.trans (by simp [Value.ownBlock])))))
      · simp [Value.ownBlock] at e; exact .inr (by omega)
    · rcases g6 with e | e
      · exact .inl ((hSS _).2 (.inr (.inr (e.symm.trans (by simp [Value.ownBlock])))))
      · simp [Value.ownBlock] at e; exact .inr (by simp at hz3; omega)
  have hbb : Blk (w4.setCell ⟨R, 1, none⟩ (.slice (some ⟨gb, 0, none⟩) (n + 1) cb')) w.heap.size 47 [.int .i32 b.x0, .int .i32 b.y0, .int .i32 b.x1, .int .i32 b.y1] ∧ gi ≠ w.heap.size ∧ gb ≠ w.heap.size ∧ R ≠ w.heap.size := by
    obtain ⟨g1, g2, g3⟩ := HG3.out
    obtain ⟨g4, g5, g6⟩ := HG4.out
    have hin := HS.out.inb
    have hSS := HRI.out.2.2
    rw [← HN.out.1] at hSS
    have hz2 := HK2.out.size
    have hRne : R ≠ w.heap.size := fun e => by have := hin R ((hSS R).2 (.inl rfl)); omega
    have hX3 := (HX2.out.alloc (.cells #[.int .u32 0] 32)).grown g2 (own_ne (HI2.out.alloc (.cells #[.int .u32 0] 32)) (HX2.out.alloc (.cells #[.int .u32 0] 32)) (by decide))
    have hlt2 := HX2.out.lt
    have hlt3 := hX3.lt
    have hX4 := ((hX3.far (p := ⟨R, 0, none⟩) (Ne.symm hRne) (.slice (some ⟨gi, 0, none⟩) (n + 1) ci')).alloc (.cells #[.int .i32 0, .int .i32 0, .int .i32 0, .int .i32 0] 47)).grown g5 (fun e => by have := hin w.heap.size ((hSS _).2 (.inr (.inr e.symm))); omega)
    refine ⟨hX4.far (p := ⟨R, 1, none⟩) (Ne.symm hRne) _, fun e => ?_, fun e => ?_, hRne⟩
    · have := own_ne g1 hX3 (by decide); simp [Value.ownBlock] at this; exact this e.symm
    · rcases g6 with h | h
      · have := hin gb ((hSS _).2 (.inr (.inr (h.symm.trans (by simp [Value.ownBlock]))))); omega
      · simp [Value.ownBlock] at h; omega
  obtain ⟨w5, hw5⟩ : ∃ w5, w5 = w4.setCell ⟨R, 1, none⟩ (.slice (some ⟨gb, 0, none⟩) (n + 1) cb') := ⟨_, rfl⟩
  rw [← hw5] at hst hfoot hbb ⊢
  have HST := Lib.hid hst
  have HFT := Lib.hid hfoot
  have HBB := Lib.hid hbb
  clear hst hfoot hbb hw5 cR4 fR4 HG4 HG3 HR4 HR3 HB3 HK2 HX2 HI2 HB2 HR2
  refine wp_loop_ghost (fun m a w' => ∃ j y y0 y1 y2 y3, m = j - pos ∧ pos ≤ j ∧ j ≤ n ∧ Fr a 98 [(0, .pointer (some ⟨R, 0, none⟩)), (1, .int .u32 (id : Int)), (5, .pointer (some ⟨w.heap.size, 0, none⟩)), (7, .int .i64 (pos : Int)), (9, .int .i64 (j : Int))] ∧ Sh2 w' R gi ci' gb cb' (n + 1) (idsJ L y j) (bxsJ L y0 y1 y2 y3 j) ∧ Keeps (fun k => k = gi ∨ k = gb) w5 w') (n - pos) ?_ ?_
  · exact ⟨n, _, _, _, _, _, rfl, by omega, Nat.le_refl _, ⟨rfl, rfl, by simp⟩, HST.out, Keeps.refl _ _⟩
  rintro m a w' ⟨j, y, y0, y1, y2, y3, rfl, hj1, hj2, hF, hSh, hK⟩
  by_cases hlt : pos < j
  · obtain ⟨k, rfl⟩ : ∃ k, j = k + 1 := ⟨j - 1, by omega⟩
    obtain ⟨p, hp⟩ : ∃ p, L[k]? = some p := ⟨_, List.getElem?_eq_getElem (by have := HN.out.1; omega)⟩
    refine wp_mono (rsh_go w' R gi ci' gb cb' (n + 1) _ _ hSh id w.heap.size pos k (by omega) (by omega) (by have := HNI.out; omega) p.1 p.2.x0 p.2.y0 p.2.x1 p.2.y1 (idsJ_at hp y) (bxsJ_at hp y0 y1 y2 y3 rfl) (bxsJ_at hp y0 y1 y2 y3 rfl) (bxsJ_at hp y0 y1 y2 y3 rfl) (bxsJ_at hp y0 y1 y2 y3 rfl) (fun _ _ _ => False) (fun _ _ => False) a hF) ?_
    refine Outs.mono ?_ (fun _ _ _ h => h.elim) (fun _ _ h => h.elim)
    rintro a' w'' ⟨hF', hSh', hK'⟩
    rw [idsJ_step hp, bxsJ_step hp] at hSh'
    exact ⟨k - pos, by omega, k, _, _, _, _, _, rfl, by omega, by omega, hF', hSh', hK.trans hK'⟩
  obtain rfl : j = pos := by omega
  refine wp_mono (rsh_end w' R id w.heap.size j (fun _ _ => False) (fun _ _ => False) a hF) ?_
  refine Outs.mono (fun _ _ h => h.elim) ?_ (fun _ _ h => h.elim)
  clear hF
  rintro m a w6 ⟨rfl, rfl, hF⟩
  revert hF
  refine fun hF => frames98 (P := fun a => Fr a 98 [(0, .pointer (some ⟨R, 0, none⟩)), (1, .int .u32 (id : Int)), (5, .pointer (some ⟨w.heap.size, 0, none⟩)), (7, .int .i64 (j : Int))] → Exit.then _ _ _ a w6) ?_ a hF.1 hF.2.1 hF
  intro u0 u1 u2 u3 u4 u5 u6 u7 u8 u9 u10 u11 u12 u13 u14 u15 u16 u17 u18 u19 u20 u21 u22 u23 u24 u25 u26 u27 u28 u29 u30 u31 u32 u33 u34 u35 u36 u37 u38 u39 u40 u41 u42 u43 u44 u45 u46 u47 u48 u49 u50 u51 u52 u53 u54 u55 u56 u57 u58 u59 u60 u61 u62 u63 u64 u65 u66 u67 u68 u69 u70 u71 u72 u73 u74 u75 u76 u77 u78 u79 u80 u81 u82 u83 u84 u85 u86 u87 u88 u89 u90 u91 u92 u93 u94 u95 u96 u97 hF
  obtain rfl : u0 = .pointer (some ⟨R, 0, none⟩) := hF.at_ 0 _ (by simp)
  obtain rfl : u1 = .int .u32 (id : Int) := hF.at_ 1 _ (by simp)
  obtain rfl : u5 = .pointer (some ⟨w.heap.size, 0, none⟩) := hF.at_ 5 _ (by simp)
  obtain rfl : u7 = .int .i64 (j : Int) := hF.at_ 7 _ (by simp)
  clear hF
  obtain ⟨hB, hI, hX⟩ := hSh
  obtain ⟨hbb, hgi, hgb, hRw⟩ := HBB.out
  have hbb6 := hbb.keeps hK (fun e => by rcases e with e | e; exact hgi e.symm; exact hgb e.symm)
  have hRi : R ≠ gi := fun e => by have := own_ne hI hB (by decide); simp [Value.ownBlock] at this; exact this e
  have hRb : R ≠ gb := fun e => by have := own_ne hX hB (by decide); simp [Value.ownBlock] at this; exact this e
  have hib : (Value.slice (some ⟨gi, 0, none⟩) (n + 1) ci').ownBlock ≠ some gb := by
    have := (rows_ne hI hX (by decide)).resolve_left (by simp [Value.ownBlock])
    simpa [Value.ownBlock] using this
  have hbi : (Value.slice (some ⟨gb, 0, none⟩) (n + 1) cb').ownBlock ≠ some gi := by
    simp [Value.ownBlock] at hib ⊢; exact fun e => hib e.symm
  have hxl := hX.1
  have hil := hI.1
  obtain ⟨v1, e1⟩ : ∃ v1, w6.cell? ⟨gi, j, none⟩ = some v1 := by
    rw [hI.cellAt j (by omega)]
    exact ⟨_, List.getElem?_eq_getElem (by omega)⟩
  have hd : ∀ i, i < 4 → ∃ v, w6.cell? ⟨gb, j * 4 + i, none⟩ = some v := fun i hi => by
    rw [hX.cellAt _ (by omega)]
    exact ⟨_, List.getElem?_eq_getElem (by omega)⟩
  obtain ⟨r0, hr0⟩ := hd 0 (by omega)
  obtain ⟨r1, hr1⟩ := hd 1 (by omega)
  obtain ⟨r2, hr2⟩ := hd 2 (by omega)
  obtain ⟨r3, hr3⟩ := hd 3 (by omega)
  simp only [Nat.add_zero] at hr0
  have hgne : gb ≠ gi := fun e => hbi (by simp [Value.ownBlock, e])
  have hr0' := pt_far (v := .int .u32 (id : Int)) (c := gi) (j := j) hr0 (.inl hgne)
  have hr1' := pt_far (v := .int .u32 (id : Int)) (c := gi) (j := j) hr1 (.inl hgne)
  have hr2' := pt_far (v := .int .u32 (id : Int)) (c := gi) (j := j) hr2 (.inl hgne)
  have hr3' := pt_far (v := .int .u32 (id : Int)) (c := gi) (j := j) hr3 (.inl hgne)
  have fI := hI.frozenAt
  have fX := (owns_setCell hX (p := ⟨gi, j, none⟩) hbi (.int .u32 (id : Int))).frozenAt
  have cR := hB.cell
  have cR7 := all_far (c := gi) (j := j) (v := .int .u32 (id : Int)) cR hRi
  have cX7 := all_far (c := gi) (j := j) (v := .int .u32 (id : Int)) hbb6.cell (Ne.symm hgi)
  have HSc := Lib.hid (show (∀ i : Nat, (w6.setCell ⟨gi, j, none⟩ (.int .u32 (id : Int))).drew.cell? ⟨R, i, none⟩ = ([.slice (some ⟨gi, 0, none⟩) (n + 1) ci', .slice (some ⟨gb, 0, none⟩) (n + 1) cb'] : List Value)[i]?) ∧ (∀ i : Nat, (w6.setCell ⟨gi, j, none⟩ (.int .u32 (id : Int))).drew.cell? ⟨w.heap.size, i, none⟩ = ([.int .i32 b.x0, .int .i32 b.y0, .int .i32 b.x1, .int .i32 b.y1] : List Value)[i]?) from ⟨cR7, cX7⟩)
  have HSd := Lib.hid (show (∀ i : Nat, (((((w6.setCell ⟨gi, j, none⟩ (.int .u32 (id : Int))).setCell ⟨gb, j * 4, none⟩ (.int .i32 b.x0)).setCell ⟨gb, j * 4 + 1, none⟩ (.int .i32 b.y0)).setCell ⟨gb, j * 4 + 2, none⟩ (.int .i32 b.x1)).setCell ⟨gb, j * 4 + 3, none⟩ (.int .i32 b.y1)).drew.cell? ⟨R, i, none⟩ = ([.slice (some ⟨gi, 0, none⟩) (n + 1) ci', .slice (some ⟨gb, 0, none⟩) (n + 1) cb'] : List Value)[i]?) ∧ (∀ i : Nat, (((((w6.setCell ⟨gi, j, none⟩ (.int .u32 (id : Int))).setCell ⟨gb, j * 4, none⟩ (.int .i32 b.x0)).setCell ⟨gb, j * 4 + 1, none⟩ (.int .i32 b.y0)).setCell ⟨gb, j * 4 + 2, none⟩ (.int .i32 b.x1)).setCell ⟨gb, j * 4 + 3, none⟩ (.int .i32 b.y1)).drew.cell? ⟨w.heap.size, i, none⟩ = ([.int .i32 b.x0, .int .i32 b.y0, .int .i32 b.x1, .int .i32 b.y1] : List Value)[i]?) from ⟨all_far (all_far (all_far (all_far cR7 hRb) hRb) hRb) hRb, all_far (all_far (all_far (all_far cX7 (Ne.symm hgb)) (Ne.symm hgb)) (Ne.symm hgb)) (Ne.symm hgb)⟩)
  have hj0 : (0 : Int) ≤ (j : Int) := by omega
  have hjn : (j : Int) < (n : Int) + 1 := by omega
  have HFin := Lib.hid (show Ref2 (((((w6.setCell ⟨gi, j, none⟩ (.int .u32 (id : Int))).setCell ⟨gb, j * 4 + 0, none⟩ (.int .i32 b.x0)).setCell ⟨gb, j * 4 + 1, none⟩ (.int .i32 b.y0)).setCell ⟨gb, j * 4 + 2, none⟩ (.int .i32 b.x1)).setCell ⟨gb, j * 4 + 3, none⟩ (.int .i32 b.y1)) R (some ⟨gi, 0, none⟩) ci' (some ⟨gb, 0, none⟩) cb' (putL id b L) from by
    have hpl : (putL id b L).length = n + 1 := by rw [putL_length, HN.out.1]
    have hpe := putL_pos (bx := b) HRI.out.1 h2
    rw [← HN.out.2] at hpe
    unfold Ref2
    rw [hpl, hpe, ← idsJ_end L id b y j (by have := HN.out.1; omega), ← bxsJ_end L id b y0 y1 y2 y3 j (by have := HN.out.1; omega)]
    exact ⟨((((hB.far (p := ⟨gi, _, none⟩) hRi _).far (p := ⟨gb, _, none⟩) hRb _).far (p := ⟨gb, _, none⟩) hRb _).far (p := ⟨gb, _, none⟩) hRb _).far (p := ⟨gb, _, none⟩) hRb _,
      owns_setCell (owns_setCell (owns_setCell (owns_setCell (hI.stored _ _).1 (p := ⟨gb, _, none⟩) hib _) (p := ⟨gb, _, none⟩) hib _) (p := ⟨gb, _, none⟩) hib _) (p := ⟨gb, _, none⟩) hib _,
      ((((((((owns_setCell hX (p := ⟨gi, j, none⟩) hbi (.int .u32 (id : Int))).stored _ _).1).stored _ _).1).stored _ _).1).stored _ _).1⟩)
  have HKF := Lib.hid (show Keeps (fun k => k = gi ∨ k = gb) w5 (((((w6.setCell ⟨gi, j, none⟩ (.int .u32 (id : Int))).setCell ⟨gb, j * 4 + 0, none⟩ (.int .i32 b.x0)).setCell ⟨gb, j * 4 + 1, none⟩ (.int .i32 b.y0)).setCell ⟨gb, j * 4 + 2, none⟩ (.int .i32 b.x1)).setCell ⟨gb, j * 4 + 3, none⟩ (.int .i32 b.y1)) from ((((hK.setCell (p := ⟨gi, _, none⟩) (by simp) _).setCell (p := ⟨gb, _, none⟩) (by simp) _).setCell (p := ⟨gb, _, none⟩) (by simp) _).setCell (p := ⟨gb, _, none⟩) (by simp) _).setCell (p := ⟨gb, _, none⟩) (by simp) _)
  clear hB hI hX hbb hbb6 hK hxl hil hd cR7 cX7 hr0 hr1 hr2 hr3 hlt hj1 hj2 hgi hgb hRw hib hbi hgne
  go_wp2
  go_region_held3 (fun W => (∀ i : Nat, W.cell? ⟨R, i, none⟩ = ([.slice (some ⟨gi, 0, none⟩) (n + 1) ci', .slice (some ⟨gb, 0, none⟩) (n + 1) cb'] : List Value)[i]?) ∧ (∀ i : Nat, W.cell? ⟨w.heap.size, i, none⟩ = ([.int .i32 b.x0, .int .i32 b.y0, .int .i32 b.x1, .int .i32 b.y1] : List Value)[i]?)) (first | with_reducible assumption | with_reducible refine HSc.out | with_reducible refine HSd.out) (fail)
  go_wp2
  go_ret
  refine ⟨rfl, fun k => k = R ∨ k = gi ∨ k = gb, HFT.out.trans (Foot.same ((HKF.out.drew).mono (fun k _ hk => .inr hk))), ?_⟩
  have hF := HFin.out
  have hpl : (putL id b L).length = n + 1 := by rw [putL_length, HN.out.1]
  refine ⟨some ⟨gi, 0, none⟩, ci', some ⟨gb, 0, none⟩, cb', ⟨hF.1.drew, hF.2.1.drew, hF.2.2.drew⟩, putL_rising id b L HRI.out.1 (hasL_no.1 h2), fun p hp => ?_, by have := HNI.out; show (putL id b L).length ≤ 65536; rw [hpl]; omega, fun k => ?_⟩
  · rcases (putL_mem id b L p).1 hp with rfl | hp
    · exact ⟨hid, HH1.out⟩
    · exact HRI.out.2.1 p hp
  · simp only [Value.ownBlock, Option.some.injEq]
    constructor
    · rintro (h | h | h)
      · exact .inl h
      · exact .inr (.inl h.symm)
      · exact .inr (.inr h.symm)
    · rintro (h | h | h)
      · exact .inl h
      · exact .inr (.inl h.symm)
      · exact .inr (.inr h.symm)
end Tree
end Go.Proofs.Ytndghakagogmcaa
