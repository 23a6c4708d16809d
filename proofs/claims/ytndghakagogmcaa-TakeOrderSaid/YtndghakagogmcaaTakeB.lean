/-
  (*Taker).Arrive: what an arrival does, whatever the packet and the ring.
-/
import Derived.Test.YtndghakagogmcaaTakeP
import Derived.Test.YtndghakagogmcaaTakeA
import Derived.Test.YtndghakagogmcaaFr
namespace Go.Proofs.Ytndghakagogmcaa
open Go.RowKit
namespace Take
open Mem
def St (w0 w : World) (tb rb : Nat) (v : Value) (outs : List Pk) (nx : Nat) (rs : Ring) : Prop :=
  Blk w tb 93 [.int .u64 (nx : Int), .slice (some ⟨rb, 0, none⟩) rs.length rs.length] ∧ Blk w rb 90 (ring rs) ∧
  w.ownsRow w0.heap.size 40 11 v outs.length (pks outs) ∧ Keeps (fun k => k = tb ∨ k = rb) w0 w
theorem St.drewN {w0 w : World} {tb rb : Nat} {v : Value} {outs : List Pk} {nx : Nat} {rs : Ring} (h : St w0 w tb rb v outs nx rs) (n : Nat) : St w0 (w.drewN n) tb rb v outs nx rs :=
  ⟨h.1.drewN _, h.2.1.drewN _, h.2.2.1, h.2.2.2.drewN _⟩
noncomputable def arrBody : Code := ((Try.f16.body.map fun | .seq _ (.scope c) => c | c => c).getD .skip)
noncomputable def arr0 : Code := (findLabel arrBody 0).getD .skip
noncomputable def arr1 : Code := match (findLabel arrBody 1).getD .skip with | .seq _ r => r | c => c
theorem arr0_is : findLabel arrBody 0 = some arr0 := by kernel_rfl
theorem arr1_is : findLabel arrBody 1 = some (.seq .skip arr1) := by kernel_rfl

set_option maxRecDepth 100000 in
theorem pass0 (w0 w : World) (tb rb : Nat) (v : Value) (outs : List Pk) (nx : Nat) (rs : Ring) (hn1 : 1 ≤ nx) (hn2 : nx ≤ 4611686018427387904) (h : St w0 w tb rb v outs nx rs)
    (Q : Exit → Act → World → Prop) (u1 u2 u3 u4 u5 u7 u8 u9 u10 u11 u12 u13 u14 u15 u16 u17 u18 u19 u20 u21 u22 u23 u24 u25 u26 u27 u28 u29 u30 u31 u32 u33 u34 u35 u36 u37 u38 u39 u40 u41 u42 u43 u44 u45 u46 u47 u48 u49 u50 u51 u52 u53 u54 u55 u56 u57 u58 u59 u60 u61 : Value)
    (hQ : ∀ a w', St w0 w' tb rb v outs nx rs → a.tmps.getD 4 undef = v → a.tmps.getD 5 undef = .int .u64 ((nx : Int) - 1) → a.defers = [] → Q .ret a w') :
    arr0.wp Try.prog Q ⟨#[.pointer (some ⟨tb, 0, none⟩), u1, u2, u3, u4, u5, v, u7, u8, u9, u10, u11, u12, u13, u14, u15, u16, u17, u18, u19, u20, u21, u22, u23, u24, u25, u26, u27, u28, u29, u30, u31, u32, u33, u34, u35, u36, u37, u38, u39, u40, u41, u42, u43, u44, u45, u46, u47, u48, u49, u50, u51, u52, u53, u54, u55, u56, u57, u58, u59, u60, u61], []⟩ w := by
  obtain ⟨hT, hR, hO, hK⟩ := id h
  have c0 : w.cell? ⟨tb, 0, none⟩ = some (.int .u64 (nx : Int)) := hT.cell 0
  conv => arg 2; whnf
  go_wp2
  go_quiet (fail)
  go_wp2
  exact hQ _ _ (h.drewN _) rfl rfl rfl

set_option maxRecDepth 100000 in
theorem pass1_stop (w0 w : World) (tb rb : Nat) (v : Value) (outs : List Pk) (nx : Nat) (rs : Ring) (hn1 : 1 ≤ nx) (hn2 : nx ≤ 4611686018427387904) (hl : 0 < rs.length) (hl2 : rs.length ≤ 64) (h : St w0 w tb rb v outs nx rs)
    (he : rs[nx % rs.length]? = some none)
    (Q : Exit → Act → World → Prop) (u1 u2 u3 u4 u5 u7 u8 u9 u10 u11 u12 u13 u14 u15 u16 u17 u18 u19 u20 u21 u22 u23 u24 u25 u26 u27 u28 u29 u30 u31 u32 u33 u34 u35 u36 u37 u38 u39 u40 u41 u42 u43 u44 u45 u46 u47 u48 u49 u50 u51 u52 u53 u54 u55 u56 u57 u58 u59 u60 u61 : Value)
    (hQ : ∀ a w', St w0 w' tb rb v outs nx rs → a.tmps.getD 4 undef = v → a.tmps.getD 5 undef = .int .u64 ((nx : Int) - 1) → a.defers = [] → Q .ret a w') :
    arr1.wp Try.prog Q ⟨#[.pointer (some ⟨tb, 0, none⟩), u1, u2, u3, u4, u5, v, u7, u8, u9, u10, u11, u12, u13, u14, u15, u16, u17, u18, u19, u20, u21, u22, u23, u24, u25, u26, u27, u28, u29, u30, u31, u32, u33, u34, u35, u36, u37, u38, u39, u40, u41, u42, u43, u44, u45, u46, u47, u48, u49, u50, u51, u52, u53, u54, u55, u56, u57, u58, u59, u60, u61], []⟩ w := by
  obtain ⟨hT, hR, hO, hK⟩ := id h
  have c0 : w.cell? ⟨tb, 0, none⟩ = some (.int .u64 (nx : Int)) := hT.cell 0
  have c1 : w.cell? ⟨tb, 1, none⟩ = some (.slice (some ⟨rb, 0, none⟩) rs.length rs.length) := hT.cell 1
  have r0 : w.cell? ⟨rb, nx % rs.length * 12, none⟩ = some (.bool false) := by
    have := Mem.flat_cell plc_length rs (nx % rs.length) 0 (by omega) none he
    rw [hR.cell]; exact this
  conv => arg 2; whnf
  go_wp2_with (go_at_call 40; refine (place_any tb rb rs.length nx _ c1 (by omega) hl2 hl).mono ?_; rintro e w1 ⟨rfl, k, rfl⟩)
  go_step3
  go_wp2
  go_quiet (fail)
  go_wp2
  exact hQ _ _ ((h.drewN _).drewN _) rfl rfl rfl

theorem pkInfo : (Try.prog.info? 40).map (fun i => (i.zero, i.size, i.bytes)) = some (some (.agg zpk.cells.toArray), 11, 64) := by kernel_rfl
theorem plInfo : (Try.prog.info? 90).map (·.size) = some 12 := by kernel_rfl
set_option maxRecDepth 100000 in
theorem pass1_go (w0 w : World) (tb rb : Nat) (v : Value) (outs : List Pk) (nx : Nat) (rs : Ring) (q : Pk) (hn1 : 1 ≤ nx) (hn2 : nx ≤ 4611686018427387904) (hl : 0 < rs.length) (hl2 : rs.length ≤ 64) (h : St w0 w tb rb v outs nx rs)
    (he : rs[nx % rs.length]? = some (some q)) (ho : outs.length ≤ 1000000)
    (Q : Exit → Act → World → Prop) (u1 u2 u3 u4 u5 u7 u8 u9 u10 u11 u12 u13 u14 u15 u16 u17 u18 u19 u20 u21 u22 u23 u24 u25 u26 u27 u28 u29 u30 u31 u32 u33 u34 u35 u36 u37 u38 u39 u40 u41 u42 u43 u44 u45 u46 u47 u48 u49 u50 u51 u52 u53 u54 u55 u56 u57 u58 u59 u60 u61 : Value)
    (hQ : ∀ v' a w', Fr a 62 [(0, .pointer (some ⟨tb, 0, none⟩)), (6, v')] → St w0 w' tb rb v' (outs ++ [q]) (nx + 1) (rs.set (nx % rs.length) none) → Q (.goto 1) a w') :
    arr1.wp Try.prog Q ⟨#[.pointer (some ⟨tb, 0, none⟩), u1, u2, u3, u4, u5, v, u7, u8, u9, u10, u11, u12, u13, u14, u15, u16, u17, u18, u19, u20, u21, u22, u23, u24, u25, u26, u27, u28, u29, u30, u31, u32, u33, u34, u35, u36, u37, u38, u39, u40, u41, u42, u43, u44, u45, u46, u47, u48, u49, u50, u51, u52, u53, u54, u55, u56, u57, u58, u59, u60, u61], []⟩ w := by
  obtain ⟨hT, hR, hO, hK⟩ := h
  have c0 : w.cell? ⟨tb, 0, none⟩ = some (.int .u64 (nx : Int)) := hT.cell 0
  have c1 : w.cell? ⟨tb, 1, none⟩ = some (.slice (some ⟨rb, 0, none⟩) rs.length rs.length) := hT.cell 1
  have r0 : w.cell? ⟨rb, nx % rs.length * 12, none⟩ = some (.bool true) := by
    have := Mem.flat_cell plc_length rs (nx % rs.length) 0 (by omega) (some q) he
    rw [hR.cell]; exact this
  have rv : ((ring rs).drop (nx % rs.length * 12 + 1)).take q.cells.length = q.cells := by
    have := Mem.flat_get plc_length rs (nx % rs.length) (some q) he
    have h2 : (List.take 12 (List.drop (nx % rs.length * 12) (ring rs))).drop 1 = q.cells := by unfold ring; rw [this]; rfl
    rw [← h2]; simp [List.drop_take]
  conv => arg 2; whnf
  obtain ⟨i0, hi0, hz0, hz1, hz2⟩ := info_parts pkInfo
  have hlt : nx % rs.length < rs.length := Nat.mod_lt _ hl
  have hrl := ring_length rs
  go_wp2_with (first
    | (go_at_call 40; refine (place_any tb rb rs.length nx _ c1 (by omega) hl2 hl).mono ?_; rintro e w1 ⟨rfl, k, rfl⟩)
    | (with_reducible refine wpList_load_blk rfl 40 (.tmp 42) rfl rb (nx % rs.length * 12 + 1) _ _ q.cells _ rfl (hR.drewN _) rv Try.underlying40 rfl (by kernel_rfl) ?_)
    | (with_reducible refine wpList_slice1 rfl 28 40 (.tmp 43) rfl (.agg q.cells.toArray) rfl q.cells rfl 11 Try.underlying28 (by kernel_rfl) (by kernel_rfl) rfl (by omega) (by omega) ?_)
    | (at_builtin
       refine wpList_append_own _ rfl (.tmp 39) (.tmp 44) 28 rfl w0.heap.size 40 i0 _ 11 64 Try.underlying28 hi0 hz0 hz1 hz2 rfl (by omega) v outs.length (pks outs) rfl (hO.alloc _) ⟨w.heap.size, 0, none⟩ 1 1 q.cells rfl rfl (by exact Mem.news_new _ _ _) (cells_one q) (by unfold maxLen; omega) (by omega) (by have := hK.size; simp; omega) ?_
       intro v1 w1 hO1 hg1 _
       have hT1 := ((hT.drewN k).alloc (.cells q.cells.toArray 40)).grown hg1 (own_ne hO hT (by decide))
       have hR1 := ((hR.drewN k).alloc (.cells q.cells.toArray 40)).grown hg1 (own_ne hO hR (by decide))
       clear r0 c0 c1)
    | (with_reducible refine wpList_store_blk rfl 90 (.tmp 48) (.tmp 47) rfl rb (nx % rs.length * 12) 90 (ring rs) (plc none).toArray ?_ ?_ hR1 ?_ ?_ ?_ ?_
       · rfl
       · rfl
       · rw [hrl]; simp [plc, zpk, Pk.cells]; omega
       · kernel_rfl
       · exact plc_one none
       intro w2 hR2 hg2 hz2
       have hT2 := hT1.grown hg2 (by simpa using Blk.ne_ hT hR (by decide))
       have hO2 := hO1.kept hg2 (.inr (own_ne hO1 hR1 (by decide)).symm)
       have c0 : w2.cell? ⟨tb, 0, none⟩ = some (.int .u64 (nx : Int)) := hT2.cell 0
       have c0f := hT2.frozen 0))
  go_step3
  refine hQ v1 _ _ ⟨rfl, rfl, by simp⟩ ?_
  have e1 : pks (outs ++ [q]) = pks outs ++ q.cells := by simp [pks]
  have e2 : (ring rs).take (nx % rs.length * 12) ++ (plc none).toArray.toList ++ (ring rs).drop (nx % rs.length * 12 + (plc none).toArray.size) = ring (rs.set (nx % rs.length) none) := Mem.flat_set plc_length rs _ none hlt
  refine ⟨?_, ?_, ?_, ?_⟩
  · have := hT2.set_ 0 (.int .u64 ((nx : Int) + 1))
    simpa using this
  · rw [← e2]
    exact hR2.far (Blk.ne_ hT hR (by decide)).symm _
  · rw [e1, List.length_append]
    exact hO2.kept (row := some tb) ⟨rfl, rfl, rfl, by simp [World.setCell], fun k _ hk => Below.heap_setCell _ _ _ _ (fun e => hk (by rw [e]))⟩ (.inr (own_ne hO2 hT2 (by decide)).symm)
  · exact (((((hK.drewN k).alloc _).grown hg1 (fun i hi e => by have := (hO.lt i e).1; omega)).grown hg2 (fun i _ e => .inr (by injection e with e; exact e.symm))).setCell (p := ⟨tb, 0, none⟩) (fun _ => .inl rfl) _)

theorem rel_one (rs : Ring) (nx : Nat) (q : Pk) (he : rs[nx % rs.length]? = some (some q)) :
    rel (full rs) nx rs = (q :: (rel (full (rs.set (nx % rs.length) none)) (nx + 1) (rs.set (nx % rs.length) none)).1, (rel (full (rs.set (nx % rs.length) none)) (nx + 1) (rs.set (nx % rs.length) none)).2) := by
  have := full_set_none rs _ q he
  rw [← this]
  exact rel_go _ nx rs q he
/-- the scope's state at its labels -/
def ArrJ (w0 : World) (tb rb nx : Nat) (rs : Ring) (p : Pk) (l m : Nat) (a : Act) (w : World) : Prop :=
  (l = 1 ∧ ∃ v outs nx' rs', Fr a 62 [(0, .pointer (some ⟨tb, 0, none⟩)), (6, v)] ∧ St w0 w tb rb v outs nx' rs' ∧ m = full rs' + 1 ∧ 1 ≤ nx' ∧ nx' + full rs' ≤ nx + 64 ∧ rs'.length = rs.length ∧ outs.length + full rs' ≤ 64 ∧
    (outs ++ (rel (full rs') nx' rs').1, (rel (full rs') nx' rs').2) = arr nx rs p) ∨
  (l = 0 ∧ ∃ v, Fr a 62 [(0, .pointer (some ⟨tb, 0, none⟩)), (6, v)] ∧ St w0 w tb rb v [] nx rs ∧ arr nx rs p = ([], nx, rs))
theorem arr_in (w0 : World) (tb rb nx : Nat) (rs : Ring) (p : Pk) (hn1 : 1 ≤ nx) (hn2 : nx ≤ 2305843009213693952) (hl : 0 < rs.length) (hl2 : rs.length ≤ 64)
    (Q : Exit → Act → World → Prop)
    (hQ : ∀ a w' v, St w0 w' tb rb v (arr nx rs p).1 (arr nx rs p).2.1 (arr nx rs p).2.2 → a.tmps.getD 4 undef = v → a.tmps.getD 5 undef = .int .u64 (((arr nx rs p).2.1 : Int) - 1) → a.defers = [] → Q .ret a w')
    (m : Nat) (a : Act) (w : World) (h : ArrJ w0 tb rb nx rs p 1 m a w) : arr1.wp Try.prog (Jumps (fun l' a' w' => ∃ m', m' < m ∧ ArrJ w0 tb rb nx rs p l' m' a' w') Q) a w := by
  rcases h with ⟨_, v, outs, nx', rs', hF, hS, rfl, h1, h2, h3, h4, h5⟩ | ⟨h, _⟩
  · have hi : nx' % rs'.length < rs'.length := Nat.mod_lt _ (by omega)
    obtain ⟨u0, u1, u2, u3, u4, u5, u6, u7, u8, u9, u10, u11, u12, u13, u14, u15, u16, u17, u18, u19, u20, u21, u22, u23, u24, u25, u26, u27, u28, u29, u30, u31, u32, u33, u34, u35, u36, u37, u38, u39, u40, u41, u42, u43, u44, u45, u46, u47, u48, u49, u50, u51, u52, u53, u54, u55, u56, u57, u58, u59, u60, u61, rfl⟩ := fr62 hF
    obtain rfl : u0 = .pointer (some ⟨tb, 0, none⟩) := hF.at_ 0 _ (by simp)
    obtain rfl : u6 = v := hF.at_ 6 _ (by simp)
    rcases he : rs'[nx' % rs'.length]? with _ | (_ | q)
    · rw [List.getElem?_eq_none_iff] at he; omega
    · rw [rel_stop _ _ _ he] at h5
      refine pass1_stop w0 w tb rb _ outs nx' rs' h1 (by omega) (by omega) (by omega) hS he _ _ _ _ _ _ _ _ _ _ _ _ _ _ _ _ _ _ _ _ _ _ _ _ _ _ _ _ _ _ _ _ _ _ _ _ _ _ _ _ _ _ _ _ _ _ _ _ _ _ _ _ _ _ _ _ _ _ _ _ _ ?_
      intro a w' hS' h6 h7 h8
      refine hQ a w' _ ?_ h6 ?_ h8
      · rw [← h5]; simpa using hS'
      · rw [← h5]; exact h7
    · rw [rel_one rs' nx' q he] at h5
      have hf := full_set_none rs' _ q he
      refine pass1_go w0 w tb rb _ outs nx' rs' q h1 (by omega) (by omega) (by omega) hS he (by omega) _ _ _ _ _ _ _ _ _ _ _ _ _ _ _ _ _ _ _ _ _ _ _ _ _ _ _ _ _ _ _ _ _ _ _ _ _ _ _ _ _ _ _ _ _ _ _ _ _ _ _ _ _ _ _ _ _ _ _ _ _ ?_
      intro v' a w' hF' hS'
      refine ⟨_, Nat.lt_succ_of_le (Nat.le_of_eq hf), .inl ⟨rfl, v', outs ++ [q], nx' + 1, rs'.set (nx' % rs'.length) none, hF', hS', rfl, by omega, by omega, by simpa using h3, by simp; omega, ?_⟩⟩
      rw [← h5]; simp
  · omega
theorem arr_pass (w0 : World) (tb rb nx : Nat) (rs : Ring) (p : Pk) (hn1 : 1 ≤ nx) (hn2 : nx ≤ 2305843009213693952) (hl : 0 < rs.length) (hl2 : rs.length ≤ 64)
    (Q : Exit → Act → World → Prop)
    (hQ : ∀ a w' v, St w0 w' tb rb v (arr nx rs p).1 (arr nx rs p).2.1 (arr nx rs p).2.2 → a.tmps.getD 4 undef = v → a.tmps.getD 5 undef = .int .u64 (((arr nx rs p).2.1 : Int) - 1) → a.defers = [] → Q .ret a w')
    (l m : Nat) (a : Act) (w : World) (h : ArrJ w0 tb rb nx rs p l m a w) :
    ∃ rest, findLabel arrBody l = some rest ∧ rest.wp Try.prog (Jumps (fun l' a' w' => ∃ m', m' < m ∧ ArrJ w0 tb rb nx rs p l' m' a' w') Q) a w := by
  rcases h with ⟨rfl, v, outs, nx', rs', hF, hS, rfl, h1, h2, h3, h4, h5⟩ | ⟨rfl, v, hF, hS, h5⟩
  · refine ⟨_, arr1_is, ?_⟩
    refine wp_seq (wp_skip ?_)
    show arr1.wp _ _ _ _
    exact arr_in w0 tb rb nx rs p hn1 hn2 hl hl2 Q hQ _ a w (.inl ⟨rfl, v, outs, nx', rs', hF, hS, rfl, h1, h2, h3, h4, h5⟩)
  · refine ⟨_, arr0_is, ?_⟩
    obtain ⟨u0, u1, u2, u3, u4, u5, u6, u7, u8, u9, u10, u11, u12, u13, u14, u15, u16, u17, u18, u19, u20, u21, u22, u23, u24, u25, u26, u27, u28, u29, u30, u31, u32, u33, u34, u35, u36, u37, u38, u39, u40, u41, u42, u43, u44, u45, u46, u47, u48, u49, u50, u51, u52, u53, u54, u55, u56, u57, u58, u59, u60, u61, rfl⟩ := fr62 hF
    obtain rfl : u0 = .pointer (some ⟨tb, 0, none⟩) := hF.at_ 0 _ (by simp)
    obtain rfl : u6 = v := hF.at_ 6 _ (by simp)
    refine pass0 w0 w tb rb _ [] nx rs hn1 (by omega) hS _ _ _ _ _ _ _ _ _ _ _ _ _ _ _ _ _ _ _ _ _ _ _ _ _ _ _ _ _ _ _ _ _ _ _ _ _ _ _ _ _ _ _ _ _ _ _ _ _ _ _ _ _ _ _ _ _ _ _ _ _ ?_
    intro a w' hS' h6 h7 h8
    refine hQ a w' _ ?_ h6 ?_ h8
    · rw [h5]; exact hS'
    · rw [h5]; exact h7

end Take
end Go.Proofs.Ytndghakagogmcaa
