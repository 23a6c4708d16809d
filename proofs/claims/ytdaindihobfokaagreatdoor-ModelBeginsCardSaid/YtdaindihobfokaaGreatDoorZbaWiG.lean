/-
WiG: a frame is opened.
-/
import Derived.Test.YtdaindihobfokaaGreatDoorZazWiF
namespace Go.Proofs.YtdaindihobfokaaGreatDoor
open Go.RowKit
set_option linter.unusedVariables false
set_option linter.unusedSimpArgs false
attribute [local go_sem] Oper.semAt_some
namespace Wi
open Mem
theorem tab_stored {w5 : World} {B : Nat} (hb5 : Blk w5 B 242 ((tabL 0).take 0 ++ (tabL 256).toArray.toList ++ (tabL 0).drop (0 + (tabL 256).toArray.size))) : Blk w5 B 242 (tabL 256) := by
  have e : (tabL 0).take 0 ++ (tabL 256).toArray.toList ++ (tabL 0).drop (0 + (tabL 256).toArray.size) = tabL 256 := by
    rw [List.drop_of_length_le (by rw [tab_len, List.size_toArray, tab_len]; omega), List.append_nil, List.take_zero, List.nil_append]
  rw [e] at hb5; exact hb5
set_option maxHeartbeats 1000000 in
set_option maxRecDepth 20000 in
theorem open_t (b2 b3 b4 b5 b6 b7 : Nat) (R : List Nat) (n : Nat) (hn : n = R.length + 8) (hR : R.length = b2 + 256 * b3) (hm : R.length ≤ 8184) (b off ca : Nat) (w : World) (hB : Bys w (some ⟨b, off, none⟩) (80 :: 100 :: b2 :: b3 :: b4 :: b5 :: b6 :: b7 :: R)) (h8 : ∀ x ∈ 80 :: 100 :: b2 :: b3 :: b4 :: b5 :: b6 :: b7 :: R, x < 256) (hca : n ≤ ca) (hcr : crcOf (80 :: 100 :: b2 :: b3 :: R) = un4 b4 b5 b6 b7) :
    Calls Tryz.prog 78 #[.slice (some ⟨b, off, none⟩) n ca] w fun e w' => ∃ a c m, e = .returned (.tuple #[.slice a m c, .int .i64 0]) ∧ m = R.length ∧ Keeps (fun _ => False) w w' ∧ Own w' w.heap.size a c R := by
  have k2 : b2 < 256 := h8 b2 (by simp)
  have k3 : b3 < 256 := h8 b3 (by simp)
  have HL := Lib.hid (length_t 80 100 b2 b3 b4 b5 b6 b7 R n hn b off ca w hB k2 k3 rfl rfl)
  obtain ⟨v, hv⟩ : ∃ v, v = b2 + 256 * b3 := ⟨_, rfl⟩
  rw [← hv] at HL hR
  have hv1 : decide (v ≤ 8184) = true := decide_eq_true (by omega)
  rw [hv1] at HL
  have hs1 : IntKind.i64.wrap ((n : Int) - 8) = (v : Int) := by rw [IntWalk.i64_in _ (by omega)]; omega
  have hs2 : IntKind.i64.wrap ((v : Int) - (v : Int)) = 0 := by rw [IntWalk.i64_in _ (by omega)]; omega
  have HW := Lib.hid (fun W (hk : Keeps (fun _ => False) w W) T (hT : Blk W T 242 (tabL 256)) => whole_t 80 100 b2 b3 b4 b5 b6 b7 R n T hn b off ca W hT (hB.keeps hk (far_none _)) h8 (by omega) hca)
  rw [decide_eq_true hcr] at HW
  have hn8 : (8 : Int) ≤ (n : Int) := by omega
  have hca2 : (n : Int) ≤ (ca : Int) := by omega
  have HCL := Lib.hid (fun W (hk : Keeps (fun _ => False) w W) a8 (ha8 : a8 = (if ca = 8 then some ⟨b, off, none⟩ else some ⟨b, off + 8, none⟩)) m (hm : m = R.length) c1 => clone_t m R hm a8 c1 W (by
    have hA2 : Bys w (some ⟨b, off + 8, none⟩) R := fun i x hx => by
      obtain ⟨b', off', e, hc⟩ := hB (i + 8) x (by simpa using hx)
      injection e with e; injection e with e1 e2
      subst e1; subst e2
      exact ⟨b, off + 8, rfl, by rw [show off + 8 + i = off + (i + 8) by omega]; exact hc⟩
    rw [ha8]
    by_cases h : ca = 8
    · obtain rfl : R = [] := List.eq_nil_of_length_eq_zero (by omega)
      intro i x hx; simp at hx
    · rw [if_neg h]; exact hA2.keeps hk (far_none _)) (fun p hp => by rw [ha8] at hp; split at hp <;> (injection hp with hp; subst hp; exact ⟨_, _, rfl⟩)) (by omega))
  have HNN := Lib.hid (And.intro (show n - 8 = R.length by omega) (show v = R.length by omega))
  clear hB h8 hca hcr hR hm hn hv k2 k3 hv1
  by_cases hc8 : ca = 8
  · subst hc8
    simp only [if_pos] at HCL
    (go_enter Tryz.func78, Tryz.ntmps78; go_wp2_with (first | (go_at_call 107; (with_reducible refine HL.out.mono ?_); rintro e w1 ⟨rfl, hk1⟩; have HK1 := Lib.hid hk1; clear hk1) | (go_at_call 108; (with_reducible refine (sums_t _).mono ?_); rintro e w2 ⟨rfl, hk2⟩; have HK2 := Lib.hid (HK1.out.trans hk2); clear hk2) | (with_reducible refine wpList_store_blk rfl 242 (.tmp 6) (.tmp 13) rfl w2.heap.size 0 242 (tabL 0) (tabL 256).toArray rfl rfl (by rw [zero_tab]; exact Blk.new w2 _ _) tab_fit tab_info tab_one ?_; intro w3 hb3 hg3 hz3; have H3 := Lib.hid (And.intro (tab_stored hb3) ((HK2.out.alloc _).grown hg3 (fun k hk e => by simp at e; have := HK2.out.size; omega) : Keeps (fun _ => False) w w3)); clear hb3 hg3 hz3) | (go_at_call 109; (with_reducible refine (HW.out _ H3.out.2 _ H3.out.1).mono ?_); rintro e w4 ⟨rfl, hk4⟩; have HK4 := Lib.hid (H3.out.2.trans hk4); clear hk4) | (go_at_call 110; (with_reducible refine (HCL.out _ HK4.out _ rfl _ HNN.out.1 _).mono ?_); rintro e w5 ⟨a, c, rfl, hk5, ho5⟩; have HK5 := Lib.hid (And.intro hk5 ho5); clear hk5 ho5)); go_ret2; exact ⟨_, _, _, rfl, HNN.out.1, HK4.out.trans HK5.out.1, HK5.out.2.base HK4.out.size⟩)
  · simp only [if_neg hc8] at HCL
    (go_enter Tryz.func78, Tryz.ntmps78; go_wp2_with (first | (go_at_call 107; (with_reducible refine HL.out.mono ?_); rintro e w1 ⟨rfl, hk1⟩; have HK1 := Lib.hid hk1; clear hk1) | (go_at_call 108; (with_reducible refine (sums_t _).mono ?_); rintro e w2 ⟨rfl, hk2⟩; have HK2 := Lib.hid (HK1.out.trans hk2); clear hk2) | (with_reducible refine wpList_store_blk rfl 242 (.tmp 6) (.tmp 13) rfl w2.heap.size 0 242 (tabL 0) (tabL 256).toArray rfl rfl (by rw [zero_tab]; exact Blk.new w2 _ _) tab_fit tab_info tab_one ?_; intro w3 hb3 hg3 hz3; have H3 := Lib.hid (And.intro (tab_stored hb3) ((HK2.out.alloc _).grown hg3 (fun k hk e => by simp at e; have := HK2.out.size; omega) : Keeps (fun _ => False) w w3)); clear hb3 hg3 hz3) | (go_at_call 109; (with_reducible refine (HW.out _ H3.out.2 _ H3.out.1).mono ?_); rintro e w4 ⟨rfl, hk4⟩; have HK4 := Lib.hid (H3.out.2.trans hk4); clear hk4) | (go_at_call 110; (with_reducible refine (HCL.out _ HK4.out _ rfl _ HNN.out.1 _).mono ?_); rintro e w5 ⟨a, c, rfl, hk5, ho5⟩; have HK5 := Lib.hid (And.intro hk5 ho5); clear hk5 ho5)); go_ret2; exact ⟨_, _, _, rfl, HNN.out.1, HK4.out.trans HK5.out.1, HK5.out.2.base HK4.out.size⟩)
end Wi
end Go.Proofs.YtdaindihobfokaaGreatDoor
