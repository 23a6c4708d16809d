/-
WiD: the table of the checksum, and the sum by it.
-/
import Derived.Test.YtdaindihobfokaaGreatDoorZalWiC
namespace Go.Proofs.YtdaindihobfokaaGreatDoor
open Go.RowKit
set_option linter.unusedVariables false
set_option linter.unusedSimpArgs false
attribute [local go_sem] Oper.semAt_some
namespace Wi
open Mem
def tabL (i : Nat) : List Value := (List.range 256).map (fun k => .int .u32 ((if k < i then rbs 8 k else 0 : Nat) : Int))
theorem tab_get (i k : Nat) (h : k < 256) : (tabL i)[k]? = some (.int .u32 ((if k < i then rbs 8 k else 0 : Nat) : Int)) := by
  unfold tabL; rw [List.getElem?_map, List.getElem?_range h]; rfl
theorem tab_len (i : Nat) : (tabL i).length = 256 := by simp [tabL]
theorem tab_set (i : Nat) (h : i < 256) : (tabL i).set i (.int .u32 ((rbs 8 i : Nat) : Int)) = tabL (i + 1) := by
  apply List.ext_getElem?
  intro k
  by_cases hk : k < 256
  · rw [tab_get _ _ hk, List.getElem?_set]
    by_cases e : i = k
    · subst e; rw [if_pos rfl, tab_len, if_pos hk, if_pos (by omega)]
    · rw [if_neg e, tab_get _ _ hk]
      by_cases hki : k < i
      · rw [if_pos hki, if_pos (by omega)]
      · rw [if_neg hki, if_neg (by omega)]
  · rw [List.getElem?_eq_none (by rw [List.length_set, tab_len]; omega), List.getElem?_eq_none (by rw [tab_len]; omega)]
theorem tab_fit : 0 + (tabL 256).toArray.size ≤ (tabL 0).length := by rw [tab_len, List.size_toArray, tab_len]; omega
theorem tab_info : (Tryz.prog.info? 242).map (·.size) = some (tabL 256).toArray.size := by rw [List.size_toArray, tab_len]; kernel_rfl
theorem tab_one : (tabL 256).toArray.all (·.oneCell') = true := by
  rw [Array.all_eq_true_iff_forall_mem]
  intro x hx
  simp only [tabL, List.mem_toArray, List.mem_map] at hx
  obtain ⟨k, _, rfl⟩ := hx
  rfl
theorem zero_tab : Tryz.zeroCells242 = (tabL 0).toArray := by kernel_rfl
set_option maxHeartbeats 1000000 in
set_option maxRecDepth 20000 in
theorem sums_t (w : World) : Calls Tryz.prog 108 #[] w fun e w' => e = .returned (.agg (tabL 256).toArray) ∧ Keeps (fun _ => False) w w' := by
  go_enter Tryz.func108, Tryz.ntmps108
  go_wp2
  simp only [zero_tab]
  have b0 := (Blk.new w 242 (tabL 0)).alloc (.cells (tabL 0).toArray 242)
  have b1 := Blk.new (w.alloc (.cells (tabL 0).toArray 242)) 242 (tabL 0)
  simp only [World.size_alloc] at b1
  have HB := Lib.hid (And.intro b0 b1)
  clear b0 b1
  go_loopw [5] (fun s5 wr => ∃ (i : Nat), s5 = .int .i64 (i : Int) ∧ i ≤ 256 ∧ Keeps (fun _ => False) w wr ∧ Blk wr w.heap.size 242 (tabL 0) ∧ Blk wr (w.heap.size + 1) 242 (tabL i)) (fun s5 _ => (256 - (intOf s5).toNat))
  case atStart => exact ⟨0, rfl, Nat.zero_le _, ((Keeps.refl _ _).alloc _).alloc _, HB.out.1, HB.out.2⟩
  case round =>
    obtain ⟨i, rfl, hi, hK, hb0, hb1⟩ := hrel
    have e2 : IntKind.i64.wrap ((i : Int) + 1) = (i : Int) + 1 := IntWalk.i64_in _ (by omega)
    have ew : IntKind.u32.wrap (i : Int) = (i : Int) := IntWalk.u32_in _ (by omega)
    have HX := Lib.hid (And.intro hK (And.intro hb0 hb1))
    clear hK hb0 hb1
    by_cases hlt : i < 256
    · go_wp2
      go_loopw [3, 10] (fun s3 s10 wr2 => ∃ (u j : Nat), s3 = .int .u32 (u : Int) ∧ s10 = .int .i64 (j : Int) ∧ j ≤ 8 ∧ u < 4294967296 ∧ rbs (8 - j) u = rbs 8 i ∧ wr2 = wr) (fun _ s10 _ => (8 - (intOf s10).toNat))
      case atStart => exact ⟨i, 0, rfl, rfl, Nat.zero_le _, by omega, rfl, rfl⟩
      case round =>
        obtain ⟨u, j, rfl, rfl, hj, hu, he, rfl⟩ := hrel
        have e3 : IntKind.i64.wrap ((j : Int) + 1) = (j : Int) + 1 := IntWalk.i64_in _ (by omega)
        by_cases hlt2 : j < 8
        · have hs : rbs (8 - (j + 1)) (rb u) = rbs 8 i := by rw [← he, show 8 - j = (8 - (j + 1)) + 1 by omega]; rfl
          have HS := Lib.hid (And.intro hs (And.intro (rb_lt hu) hu))
          have ha := and32 u 1 hu (by omega)
          have hx2 := xor32 (u / 2) 3988292384 (by omega) (by omega)
          have hx0 : bits .xor .u32 ((u : Int) / 2) 0 = ((u / 2 ^^^ 0 : Nat) : Int) := xor32 (u / 2) 0 (by omega) (by omega)
          have hun : u &&& 1 = u % 2 := Nat.and_one_is_mod u
          rw [hun] at ha
          rw [Nat.xor_zero] at hx0
          clear hs he hu hun
          rcases (by omega : u % 2 = 0 ∨ u % 2 = 1) with h0 | h0
          · rw [h0] at ha
            have ha' : bits .and .u32 (u : Int) 1 = 0 := ha
            clear ha
            go_wp2
            go_roundw
            case rel =>
              refine ⟨rb u, j + 1, ?_, by go_num, by omega, HS.out.2.1, HS.out.1, by first | rfl | trivial⟩
              unfold rb; rw [if_neg (by omega)]; rfl
            case measure => simp [intOf]; omega
          · rw [h0] at ha
            have ha' : bits .and .u32 (u : Int) 1 = 1 := ha
            have hx2' : bits .xor .u32 ((u : Int) / 2) 3988292384 = ((u / 2 ^^^ 3988292384 : Nat) : Int) := hx2
            clear ha hx2
            go_wp2
            go_roundw
            case rel =>
              refine ⟨rb u, j + 1, ?_, by go_num, by omega, HS.out.2.1, HS.out.1, by first | rfl | trivial⟩
              unfold rb; rw [if_pos h0]
            case measure => simp [intOf]; omega
        · obtain rfl : j = 8 := by omega
          obtain rfl : u = rbs 8 i := he
          have c1 := HX.out.2.2.cell i
          have f1 := HX.out.2.2.frozen i
          rw [tab_get _ _ hlt] at c1
          clear hu
          go_wp2
          go_roundw
          case rel => exact ⟨i + 1, by go_num, by omega, HX.out.1.setCell (fun h => by simp at h; omega) _, HX.out.2.1.far (by simp) _, by rw [← tab_set i hlt]; exact HX.out.2.2.set_ i _⟩
          case measure => simp [intOf]; omega
    · obtain rfl : i = 256 := by omega
      have c0 := HX.out.2.1
      go_wp2_with (first
        | (with_reducible refine wpList_load_blk rfl 242 (.tmp 1) rfl (w.heap.size + 1) 0 242 (tabL 256) (tabL 256) _ rfl HX.out.2.2 (by rw [List.drop_zero, List.take_length]) Tryz.underlying242 rfl (by kernel_rfl) ?_)
        | (with_reducible refine wpList_store_blk rfl 242 (.tmp 0) (.tmp 24) rfl w.heap.size 0 242 (tabL 0) (tabL 256).toArray rfl rfl HX.out.2.1 tab_fit tab_info tab_one ?_; intro w5 hb5 hg5 hz5; have H5 := Lib.hid (And.intro hb5 hg5); clear hb5 hg5 hz5))
      obtain ⟨hb5, hg5⟩ := H5.out
      have hb6 : Blk w5 w.heap.size 242 (tabL 256) := by
        have e : (tabL 0).take 0 ++ (tabL 256).toArray.toList ++ (tabL 0).drop (0 + (tabL 256).toArray.size) = tabL 256 := by
          rw [List.drop_of_length_le (by rw [tab_len, List.size_toArray, tab_len]; omega), List.append_nil, List.take_zero, List.nil_append]
        rw [e] at hb5; exact hb5
      refine bodyPost_ret (results_cell_row rfl _ _ _ _ _ _ _ rfl hb6 Tryz.underlying242 rfl tab_info) rfl ?_
      exact ⟨rfl, HX.out.1.grown hg5 (fun k hk e => by simp at e; omega)⟩
end Wi
end Go.Proofs.YtdaindihobfokaaGreatDoor
