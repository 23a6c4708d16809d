/-
  (*Taker).Arrive, whole.
-/
import Derived.Test.YtndghakagogmcaaTakeB
namespace Go.Proofs.Ytndghakagogmcaa
open Go.RowKit
namespace Take
open Mem
theorem jumps_any (J : Nat → Nat → Act → World → Prop) (Q : Exit → Act → World → Prop) {m : Nat} : ∀ e a w, Jumps (fun l' a' w' => ∃ m', m' < m ∧ J l' m' a' w') Q e a w → Jumps (fun l' a' w' => ∃ m', J l' m' a' w') Q e a w := by
  intro e a w q
  cases e with
  | goto l => obtain ⟨m', _, hj⟩ := q; exact ⟨m', hj⟩
  | _ => exact q
def ArrPost (w : World) (tb rb nx : Nat) (rs : Ring) (p : Pk) (e : Ending) (w' : World) : Prop :=
  ∃ v, e = .returned (.tuple #[v, .int .u64 (((arr nx rs p).2.1 : Int) - 1)]) ∧ St w w' tb rb v (arr nx rs p).1 (arr nx rs p).2.1 (arr nx rs p).2.2
set_option maxRecDepth 100000 in
theorem arrive_lo (tb rb nx : Nat) (rs : Ring) (p : Pk) (w : World) (hn1 : 1 ≤ nx) (hn2 : nx ≤ 2305843009213693952) (hl : 0 < rs.length) (hl2 : rs.length ≤ 64)
    (hT : Blk w tb 93 [.int .u64 (nx : Int), .slice (some ⟨rb, 0, none⟩) rs.length rs.length]) (hR : Blk w rb 90 (ring rs))
    (hp : p.number < nx) :
    Calls Try.prog 16 #[.pointer (some ⟨tb, 0, none⟩), .agg p.cells.toArray] w (ArrPost w tb rb nx rs p) := by
  have hS : St w (w.alloc (.cells p.cells.toArray 40)) tb rb (.slice none 0 0) [] nx rs :=
    ⟨hT.alloc _, hR.alloc _, World.ownsRow_nil _ _ _ _, (Keeps.refl _ w).alloc _⟩
  have harr : arr nx rs p = ([], nx, rs) := by unfold arr; rw [if_neg (by omega)]
  have c0 : (w.alloc (.cells p.cells.toArray 40)).cell? ⟨tb, 0, none⟩ = some (.int .u64 (nx : Int)) := (hT.alloc _).cell 0
  have c1 : (w.alloc (.cells p.cells.toArray 40)).cell? ⟨tb, 1, none⟩ = some (.slice (some ⟨rb, 0, none⟩) rs.length rs.length) := (hT.alloc _).cell 1
  have hb2 : (w.alloc (.cells p.cells.toArray 40)).cell? ⟨w.heap.size, 2, none⟩ = some (.int .u64 (p.number : Int)) := (Blk.new w _ _).cell 2
  have hres : ∀ a w' v, St w w' tb rb v (arr nx rs p).1 (arr nx rs p).2.1 (arr nx rs p).2.2 → a.tmps.getD 4 undef = v → a.tmps.getD 5 undef = .int .u64 (((arr nx rs p).2.1 : Int) - 1) → a.defers = [] →
      bodyPost Try.prog Try.f16 (ArrPost w tb rb nx rs p) .ret a w' := by
    intro a w' v h1 h2 h3 h4
    refine bodyPost_ret (results_tmp2 rfl _ _ _) h4 ⟨v, ?_, h1⟩
    rw [h2, h3]
  have Hr := Lib.hid hres; clear hres
  go_enter Try.func16, Try.ntmps16
  go_wp2
  refine wp_scope_labels (ArrJ w tb rb nx rs p) ?_ (fun l m a w' h => arr_pass w tb rb nx rs p hn1 hn2 hl hl2 _ Hr.out l m a w' h)
  have Hs := Lib.hid hS; have Ha := Lib.hid harr; clear hS harr
  go_wp2_with (first
    | (go_at_call 38; refine (live_any tb rb rs.length _ c1 hl).mono ?_; rintro e w1 ⟨rfl, rfl⟩)
    | (go_at_call 39; refine (near_lo tb nx p.number _ c0 (by omega)).mono ?_; rintro e w1 ⟨rfl, k, rfl⟩))
  go_step3
  exact ⟨0, .inr ⟨rfl, _, ⟨rfl, rfl, by simp⟩, Hs.out.drewN _, Ha.out⟩⟩
set_option maxRecDepth 100000 in
theorem arrive_hi (tb rb nx : Nat) (rs : Ring) (p : Pk) (w : World) (hn1 : 1 ≤ nx) (hn2 : nx ≤ 2305843009213693952) (hl : 0 < rs.length) (hl2 : rs.length ≤ 64)
    (hT : Blk w tb 93 [.int .u64 (nx : Int), .slice (some ⟨rb, 0, none⟩) rs.length rs.length]) (hR : Blk w rb 90 (ring rs))
    (hp : nx + rs.length ≤ p.number) (hpx : p.number ≤ 9223372036854775807) :
    Calls Try.prog 16 #[.pointer (some ⟨tb, 0, none⟩), .agg p.cells.toArray] w (ArrPost w tb rb nx rs p) := by
  have hS : St w (w.alloc (.cells p.cells.toArray 40)) tb rb (.slice none 0 0) [] nx rs :=
    ⟨hT.alloc _, hR.alloc _, World.ownsRow_nil _ _ _ _, (Keeps.refl _ w).alloc _⟩
  have harr : arr nx rs p = ([], nx, rs) := by unfold arr; rw [if_neg (by omega)]
  have c0 : (w.alloc (.cells p.cells.toArray 40)).cell? ⟨tb, 0, none⟩ = some (.int .u64 (nx : Int)) := (hT.alloc _).cell 0
  have c1 : (w.alloc (.cells p.cells.toArray 40)).cell? ⟨tb, 1, none⟩ = some (.slice (some ⟨rb, 0, none⟩) rs.length rs.length) := (hT.alloc _).cell 1
  have hb2 : (w.alloc (.cells p.cells.toArray 40)).cell? ⟨w.heap.size, 2, none⟩ = some (.int .u64 (p.number : Int)) := (Blk.new w _ _).cell 2
  have hres : ∀ a w' v, St w w' tb rb v (arr nx rs p).1 (arr nx rs p).2.1 (arr nx rs p).2.2 → a.tmps.getD 4 undef = v → a.tmps.getD 5 undef = .int .u64 (((arr nx rs p).2.1 : Int) - 1) → a.defers = [] →
      bodyPost Try.prog Try.f16 (ArrPost w tb rb nx rs p) .ret a w' := by
    intro a w' v h1 h2 h3 h4
    refine bodyPost_ret (results_tmp2 rfl _ _ _) h4 ⟨v, ?_, h1⟩
    rw [h2, h3]
  have Hr := Lib.hid hres; clear hres
  go_enter Try.func16, Try.ntmps16
  go_wp2
  refine wp_scope_labels (ArrJ w tb rb nx rs p) ?_ (fun l m a w' h => arr_pass w tb rb nx rs p hn1 hn2 hl hl2 _ Hr.out l m a w' h)
  have Hs := Lib.hid hS; have Ha := Lib.hid harr; clear hS harr
  go_wp2_with (first
    | (go_at_call 38; refine (live_any tb rb rs.length _ c1 hl).mono ?_; rintro e w1 ⟨rfl, rfl⟩)
    | (go_at_call 39; refine (near_hi tb rb rs.length nx p.number _ c0 c1 (by omega) (by omega) hl2 (by omega) (by omega)).mono ?_; rintro e w1 ⟨rfl, k, rfl⟩))
  go_step3
  exact ⟨0, .inr ⟨rfl, _, ⟨rfl, rfl, by simp⟩, Hs.out.drewN _, Ha.out⟩⟩
set_option maxRecDepth 100000 in
theorem arrive_near (tb rb nx : Nat) (rs : Ring) (p : Pk) (w : World) (hn1 : 1 ≤ nx) (hn2 : nx ≤ 2305843009213693952) (hl : 0 < rs.length) (hl2 : rs.length ≤ 64)
    (hT : Blk w tb 93 [.int .u64 (nx : Int), .slice (some ⟨rb, 0, none⟩) rs.length rs.length]) (hR : Blk w rb 90 (ring rs))
    (hp : nx ≤ p.number) (hq : p.number < nx + rs.length) (he : rs[p.number % rs.length]? = some none) :
    Calls Try.prog 16 #[.pointer (some ⟨tb, 0, none⟩), .agg p.cells.toArray] w (ArrPost w tb rb nx rs p) := by
  have hi : p.number % rs.length < rs.length := Nat.mod_lt _ hl
  have hrl := ring_length rs
  have hput : put rs p = rs.set (p.number % rs.length) (some p) := by unfold put; rw [he]
  have hpl := put_length rs p
  have hful := full_le (put rs p)
  have hS : St w (w.alloc (.cells p.cells.toArray 40)) tb rb (.slice none 0 0) [] nx rs :=
    ⟨hT.alloc _, hR.alloc _, World.ownsRow_nil _ _ _ _, (Keeps.refl _ w).alloc _⟩
  have harr : arr nx rs p = rel (full (put rs p)) nx (put rs p) := by unfold arr; rw [if_pos ⟨hp, hq⟩]
  have c0 : (w.alloc (.cells p.cells.toArray 40)).cell? ⟨tb, 0, none⟩ = some (.int .u64 (nx : Int)) := (hT.alloc _).cell 0
  have c1 : (w.alloc (.cells p.cells.toArray 40)).cell? ⟨tb, 1, none⟩ = some (.slice (some ⟨rb, 0, none⟩) rs.length rs.length) := (hT.alloc _).cell 1
  have hb2 : (w.alloc (.cells p.cells.toArray 40)).cell? ⟨w.heap.size, 2, none⟩ = some (.int .u64 (p.number : Int)) := (Blk.new w _ _).cell 2
  have hrr : (w.alloc (.cells p.cells.toArray 40)).cell? ⟨rb, p.number % rs.length * 12, none⟩ = some (.bool false) := by
    have := Mem.flat_cell plc_length rs (p.number % rs.length) 0 (by omega) _ he
    rw [(hR.alloc _).cell]; exact this
  have hbw := Blk.new w 40 p.cells
  have hRa := hR.alloc (.cells p.cells.toArray 40)
  have hTa := hT.alloc (.cells p.cells.toArray 40)
  have hne := Blk.ne_ hT hR (by decide)
  have hres : ∀ a w' v, St w w' tb rb v (arr nx rs p).1 (arr nx rs p).2.1 (arr nx rs p).2.2 → a.tmps.getD 4 undef = v → a.tmps.getD 5 undef = .int .u64 (((arr nx rs p).2.1 : Int) - 1) → a.defers = [] →
      bodyPost Try.prog Try.f16 (ArrPost w tb rb nx rs p) .ret a w' := by
    intro a w' v h1 h2 h3 h4
    refine bodyPost_ret (results_tmp2 rfl _ _ _) h4 ⟨v, ?_, h1⟩
    rw [h2, h3]
  have Hr := Lib.hid hres; clear hres
  go_enter Try.func16, Try.ntmps16
  go_wp2
  refine wp_scope_labels (ArrJ w tb rb nx rs p) ?_ (fun l m a w' h => arr_pass w tb rb nx rs p hn1 hn2 hl hl2 _ Hr.out l m a w' h)
  have Hs := Lib.hid hS; have Ha := Lib.hid harr; clear hS harr
  go_wp2_with (first
    | (go_at_call 38; refine (live_any tb rb rs.length _ c1 hl).mono ?_; rintro e w1 ⟨rfl, rfl⟩)
    | (go_at_call 39; refine (near_yes tb rb rs.length nx p.number _ c0 c1 (by omega) (by omega) hl2 (by omega) (by omega)).mono ?_; rintro e w1 ⟨rfl, k, rfl⟩)
    | (go_at_call 40; refine (place_any tb rb rs.length p.number _ (by exact c1) (by omega) hl2 hl).mono ?_; rintro e w1 ⟨rfl, k2, rfl⟩)
    | (with_reducible refine wpList_load_blk rfl 40 (.tmp 3) rfl w.heap.size 0 40 p.cells p.cells _ rfl ?_ ?_ Try.underlying40 rfl ?_ ?_
       · exact hbw
       · simp
       · kernel_rfl)
    | (with_reducible refine wpList_built rfl 90 _ rfl (plc (some p)).toArray ?_ ?_
       · kernel_rfl)
    | (with_reducible refine wpList_store_blk rfl 90 (.tmp 28) (.tmp 27) rfl rb (p.number % rs.length * 12) 90 (ring rs) (plc (some p)).toArray ?_ ?_ ?_ ?_ ?_ ?_ ?_
       · rfl
       · rfl
       · exact hRa
       · rw [hrl, List.size_toArray, plc_length]; omega
       · kernel_rfl
       · exact plc_one _
       intro w2 hR2 hg2 hz2))
  apply wp_label
  refine ‹∀ (a : Act) (w : World), Code.wp _ _ _ a w → _› _ _ ?_
  refine wp_mono (arr_in w tb rb nx rs p hn1 hn2 hl hl2 _ Hr.out (full (put rs p) + 1) _ _ ?_) (jumps_any _ _)
  refine (.inl ⟨rfl, .slice none 0 0, [], nx, put rs p, ⟨rfl, rfl, by simp⟩, ⟨?_, ?_, ?_, ?_⟩, rfl, hn1, by omega, hpl, ?_, ?_⟩)
  · rw [hpl]; exact (hTa.drewN _).grown hg2 (by simpa using hne)
  · rw [hput]
    have := Mem.flat_set plc_length rs (p.number % rs.length) (some p) hi
    rw [List.size_toArray, plc_length] at hR2
    unfold ring at hR2 ⊢
    rw [← this]; exact hR2
  · exact World.ownsRow_nil _ _ _ _
  · exact (((Keeps.refl _ w).alloc _).drewN _).grown hg2 (fun k _ hk => .inr (by injection hk with hk; exact hk.symm))
  · simp; omega
  · rw [Ha.out]; simp
set_option maxRecDepth 100000 in
theorem arrive_full (tb rb nx : Nat) (rs : Ring) (p : Pk) (w : World) (hn1 : 1 ≤ nx) (hn2 : nx ≤ 2305843009213693952) (hl : 0 < rs.length) (hl2 : rs.length ≤ 64)
    (hT : Blk w tb 93 [.int .u64 (nx : Int), .slice (some ⟨rb, 0, none⟩) rs.length rs.length]) (hR : Blk w rb 90 (ring rs))
    (hp : nx ≤ p.number) (hq : p.number < nx + rs.length) (q : Pk) (he : rs[p.number % rs.length]? = some (some q)) :
    Calls Try.prog 16 #[.pointer (some ⟨tb, 0, none⟩), .agg p.cells.toArray] w (ArrPost w tb rb nx rs p) := by
  have hi : p.number % rs.length < rs.length := Nat.mod_lt _ hl
  have hrl := ring_length rs
  have hput : put rs p = rs := by unfold put; rw [he]
  have hpl := put_length rs p
  have hful := full_le (put rs p)
  have hS : St w (w.alloc (.cells p.cells.toArray 40)) tb rb (.slice none 0 0) [] nx rs :=
    ⟨hT.alloc _, hR.alloc _, World.ownsRow_nil _ _ _ _, (Keeps.refl _ w).alloc _⟩
  have harr : arr nx rs p = rel (full (put rs p)) nx (put rs p) := by unfold arr; rw [if_pos ⟨hp, hq⟩]
  have c0 : (w.alloc (.cells p.cells.toArray 40)).cell? ⟨tb, 0, none⟩ = some (.int .u64 (nx : Int)) := (hT.alloc _).cell 0
  have c1 : (w.alloc (.cells p.cells.toArray 40)).cell? ⟨tb, 1, none⟩ = some (.slice (some ⟨rb, 0, none⟩) rs.length rs.length) := (hT.alloc _).cell 1
  have hb2 : (w.alloc (.cells p.cells.toArray 40)).cell? ⟨w.heap.size, 2, none⟩ = some (.int .u64 (p.number : Int)) := (Blk.new w _ _).cell 2
  have hrr : (w.alloc (.cells p.cells.toArray 40)).cell? ⟨rb, p.number % rs.length * 12, none⟩ = some (.bool true) := by
    have := Mem.flat_cell plc_length rs (p.number % rs.length) 0 (by omega) _ he
    rw [(hR.alloc _).cell]; exact this
  have hbw := Blk.new w 40 p.cells
  have hRa := hR.alloc (.cells p.cells.toArray 40)
  have hTa := hT.alloc (.cells p.cells.toArray 40)
  have hne := Blk.ne_ hT hR (by decide)
  have hres : ∀ a w' v, St w w' tb rb v (arr nx rs p).1 (arr nx rs p).2.1 (arr nx rs p).2.2 → a.tmps.getD 4 undef = v → a.tmps.getD 5 undef = .int .u64 (((arr nx rs p).2.1 : Int) - 1) → a.defers = [] →
      bodyPost Try.prog Try.f16 (ArrPost w tb rb nx rs p) .ret a w' := by
    intro a w' v h1 h2 h3 h4
    refine bodyPost_ret (results_tmp2 rfl _ _ _) h4 ⟨v, ?_, h1⟩
    rw [h2, h3]
  have Hr := Lib.hid hres; clear hres
  go_enter Try.func16, Try.ntmps16
  go_wp2
  refine wp_scope_labels (ArrJ w tb rb nx rs p) ?_ (fun l m a w' h => arr_pass w tb rb nx rs p hn1 hn2 hl hl2 _ Hr.out l m a w' h)
  have Hs := Lib.hid hS; have Ha := Lib.hid harr; clear hS harr
  go_wp2_with (first
    | (go_at_call 38; refine (live_any tb rb rs.length _ c1 hl).mono ?_; rintro e w1 ⟨rfl, rfl⟩)
    | (go_at_call 39; refine (near_yes tb rb rs.length nx p.number _ c0 c1 (by omega) (by omega) hl2 (by omega) (by omega)).mono ?_; rintro e w1 ⟨rfl, k, rfl⟩)
    | (go_at_call 40; refine (place_any tb rb rs.length p.number _ (by exact c1) (by omega) hl2 hl).mono ?_; rintro e w1 ⟨rfl, k2, rfl⟩))
  apply wp_label
  refine ‹∀ (a : Act) (w : World), Code.wp _ _ _ a w → _› _ _ ?_
  refine wp_mono (arr_in w tb rb nx rs p hn1 hn2 hl hl2 _ Hr.out (full (put rs p) + 1) _ _ ?_) (jumps_any _ _)
  refine (.inl ⟨rfl, .slice none 0 0, [], nx, put rs p, ⟨rfl, rfl, by simp⟩, ⟨?_, ?_, ?_, ?_⟩, rfl, hn1, by omega, hpl, ?_, ?_⟩)
  · rw [hpl]; exact hTa.drewN _
  · rw [hput]; exact hRa.drewN _
  · exact World.ownsRow_nil _ _ _ _
  · exact (((Keeps.refl _ w).alloc _).drewN _)
  · simp; omega
  · rw [Ha.out]; simp

theorem arrive_any (tb rb nx : Nat) (rs : Ring) (p : Pk) (w : World) (hn1 : 1 ≤ nx) (hn2 : nx ≤ 2305843009213693952) (hl : 0 < rs.length) (hl2 : rs.length ≤ 64)
    (hT : Blk w tb 93 [.int .u64 (nx : Int), .slice (some ⟨rb, 0, none⟩) rs.length rs.length]) (hR : Blk w rb 90 (ring rs)) (hpx : p.number ≤ 9223372036854775807) :
    Calls Try.prog 16 #[.pointer (some ⟨tb, 0, none⟩), .agg p.cells.toArray] w (ArrPost w tb rb nx rs p) := by
  by_cases h1 : p.number < nx
  · exact arrive_lo tb rb nx rs p w hn1 hn2 hl hl2 hT hR h1
  · by_cases h2 : nx + rs.length ≤ p.number
    · exact arrive_hi tb rb nx rs p w hn1 hn2 hl hl2 hT hR h2 hpx
    · have hi : p.number % rs.length < rs.length := Nat.mod_lt _ hl
      rcases he : rs[p.number % rs.length]? with _ | (_ | q)
      · rw [List.getElem?_eq_none_iff] at he; omega
      · exact arrive_near tb rb nx rs p w hn1 hn2 hl hl2 hT hR (by omega) (by omega) he
      · exact arrive_full tb rb nx rs p w hn1 hn2 hl hl2 hT hR (by omega) (by omega) q he
end Take
end Go.Proofs.Ytndghakagogmcaa
