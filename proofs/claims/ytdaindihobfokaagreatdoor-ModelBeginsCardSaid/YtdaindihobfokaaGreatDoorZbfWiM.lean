/-
WiM: the document lays a frame.
-/
import Derived.Test.YtdaindihobfokaaGreatDoorZbeWiL
namespace Go.Proofs.YtdaindihobfokaaGreatDoor
open Go.RowKit
set_option linter.unusedVariables false
set_option linter.unusedSimpArgs false
attribute [local go_sem] Oper.semAt_some
namespace Wi
open Mem
theorem bys_new (w : World) (L : List Nat) : Bys (w.alloc (.cells (L.flatMap bt).toArray 5)) (some ⟨w.heap.size, 0, none⟩) L := by
  intro i x hx
  refine ⟨w.heap.size, 0, rfl, ?_⟩
  have := (Blk.new w 5 (L.flatMap bt)).cell (0 + i)
  rw [this, Nat.zero_add, flat_bt, hx]; rfl
/-- a frame, as bytes. -/
def frameL (B : List Nat) : List Nat := [80, 100] ++ le 2 B.length ++ le 4 (crcOf ([80, 100] ++ le 2 B.length ++ B)) ++ B
theorem le_lt : ∀ n v, ∀ x ∈ le n v, x < 256
  | 0, _, x, h => by simp [le] at h
  | n + 1, v, x, h => by
    simp only [le, List.mem_cons] at h
    rcases h with rfl | h
    · omega
    · exact le_lt n _ x h
theorem crcOf_lt (L : List Nat) (h : ∀ x ∈ L, x < 256) : crcOf L < 4294967296 := xor_lt 32 (by omega) (by have := crcN_lt L 4294967295 h (by omega); omega)
set_option maxHeartbeats 4000000 in
set_option maxRecDepth 20000 in
theorem frame_t (n : Nat) (B : List Nat) (hn : n = B.length) (hm : n ≤ 8184) (h8 : ∀ x ∈ B, x < 256) (aa : Option Addr) (ca : Nat) (w : World) (hB : Bys w aa B) :
    Calls Tryz.prog 50 #[.slice aa n ca] w fun e w' => ∃ a c, e = .returned (.tuple #[.slice a (n + 8 : Nat) c, .int .i64 0]) ∧ Keeps (fun _ => False) w w' ∧ Own w' w.heap.size a c (frameL B) := by
  have hm' : ¬ ((n : Int) > 8184) := by omega
  have hw : IntKind.u64.wrap (n : Int) = (n : Int) := IntWalk.u64_in _ (by omega)
  obtain ⟨H, hH⟩ : ∃ H, H = [80, 100] ++ le 2 B.length := ⟨_, rfl⟩
  have hHl : H.length = 4 := by rw [hH]; simp [le_len]
  have hH8 : ∀ x ∈ H ++ B, x < 256 := fun x hx => by
    rw [hH] at hx
    rcases List.mem_append.1 hx with hx | hx
    · rcases List.mem_append.1 hx with hx | hx
      · simp at hx; omega
      · exact le_lt _ _ x hx
    · exact h8 x hx
  obtain ⟨s, hs⟩ : ∃ s, s = crcOf (H ++ B) := ⟨_, rfl⟩
  have hsl : s < 4294967296 := by rw [hs]; exact crcOf_lt _ hH8
  have hws : IntKind.u64.wrap (s : Int) = (s : Int) := IntWalk.u64_in _ (by omega)
  have HH := Lib.hid (And.intro hn (And.intro hm (And.intro hB (And.intro hH (And.intro hHl (And.intro hH8 (And.intro hs hsl)))))))
  have SE := Lib.hid (show ∀ e : Ending, e = .returned (.int .u32 ((4294967295 ^^^ crcN (H ++ B) 4294967295 : Nat) : Int)) → e = .returned (.int .u32 (s : Int)) from fun e he => by rw [he, hs]; rfl)
  clear hn hm hB hH hHl hH8 hs hsl h8
  have hy0 := bys_new w [80, 100]
  have HY0 := Lib.hid (And.intro hy0 (show Keeps (fun _ => False) w (w.alloc (.cells #[.int .u8 80, .int .u8 100] 5)) from by (repeat (first | exact Keeps.refl _ _ | assumption | refine Keeps.alloc ?_ _ | refine Keeps.drew ?_))))
  have F1 := Lib.hid (show ∀ W, Calls Tryz.prog 48 #[.int .u64 (n : Int), .int .i64 2] W _ from fun W => fixed_t n 2 (by have := HH.out.2.1; omega) (by decide) W)
  have F2 := Lib.hid (show ∀ W, Calls Tryz.prog 48 #[.int .u64 (s : Int), .int .i64 4] W _ from fun W => fixed_t s 4 (by have := HH.out.2.2.2.2.2.2.2; omega) (by decide) W)
  have J1 := Lib.hid (show ∀ (a b : Option Addr) (ca cb : Nat) (W : World), Bys W a [80, 100] → Bys W b (le 2 n) → Calls Tryz.prog 72 #[.slice a 2 ca, .slice b 2 cb] W (fun e w' => ∃ a c, e = .returned (.slice a 4 c) ∧ Keeps (fun _ => False) W w' ∧ Own w' W.heap.size a c H) from fun a b ca cb W h1 h2 => by
    have := joined_t 2 2 [80, 100] (le 2 n) rfl (le_len 2 n).symm a b ca cb W h1 h2 (by decide)
    rw [HH.out.2.2.2.1, ← HH.out.1]; exact this)
  have J2 := Lib.hid (show ∀ (a : Option Addr) (c2 : Nat) (W : World), Bys W a H → Keeps (fun _ => False) w W → Calls Tryz.prog 72 #[.slice a 4 c2, .slice aa n ca] W (fun e w' => ∃ a c, e = .returned (.slice a (4 + n : Nat) c) ∧ Keeps (fun _ => False) W w' ∧ Own w' W.heap.size a c (H ++ B)) from fun a c2 W h1 h2 =>
    joined_t 4 n H B HH.out.2.2.2.2.1.symm HH.out.1 a aa c2 ca W h1 (HH.out.2.2.1.keeps h2 (far_none _)) (by have := HH.out.2.1; omega))
  have JC := Lib.hid (show ∀ (a : Option Addr) (c : Nat) (W : World), Bys W a (H ++ B) → Calls Tryz.prog 77 #[.slice a (4 + n : Nat) c] W (fun e w' => e = .returned (.int .u32 (s : Int)) ∧ W = w') from fun a c W h1 => by
    have := crc_t (4 + n) (H ++ B) (by rw [List.length_append, HH.out.2.2.2.2.1, ← HH.out.1]) a c W h1 HH.out.2.2.2.2.2.1 (by have := HH.out.2.1; omega)
    rw [HH.out.2.2.2.2.2.2.1]; exact this)
  have J3 := Lib.hid (show ∀ (a b : Option Addr) (ca cb : Nat) (W : World), Bys W a H → Bys W b (le 4 s) → Calls Tryz.prog 72 #[.slice a 4 ca, .slice b 4 cb] W (fun e w' => ∃ a c, e = .returned (.slice a 8 c) ∧ Keeps (fun _ => False) W w' ∧ Own w' W.heap.size a c (H ++ le 4 s)) from fun a b ca cb W h1 h2 =>
    joined_t 4 4 H (le 4 s) HH.out.2.2.2.2.1.symm (le_len 4 s).symm a b ca cb W h1 h2 (by decide))
  have J4 := Lib.hid (show ∀ (a : Option Addr) (c2 : Nat) (W : World), Bys W a (H ++ le 4 s) → Keeps (fun _ => False) w W → Calls Tryz.prog 72 #[.slice a 8 c2, .slice aa n ca] W (fun e w' => ∃ a c, e = .returned (.slice a (8 + n : Nat) c) ∧ Keeps (fun _ => False) W w' ∧ Own w' W.heap.size a c (H ++ le 4 s ++ B)) from fun a c2 W h1 h2 =>
    joined_t 8 n (H ++ le 4 s) B (by rw [List.length_append, HH.out.2.2.2.2.1, le_len]) HH.out.1 a aa c2 ca W h1 (HH.out.2.2.1.keeps h2 (far_none _)) (by have := HH.out.2.1; omega))
  clear hy0
  go_enter Tryz.func50, Tryz.ntmps50
  go_wp2_with (first
    | (go_at_call 48; (with_reducible refine (F1.out _).mono ?_); rintro e w1 ⟨a1, c1, rfl, hk1, ho1⟩; have H1 := Lib.hid (And.intro (HY0.out.2.trans hk1) (And.intro ho1 (HY0.out.1.keeps hk1 (far_none _)))); clear hk1 ho1)
    | (go_at_call 72; (with_reducible refine (J1.out _ _ _ _ _ H1.out.2.2 H1.out.2.1.bys).mono ?_); rintro e w2 ⟨a2, c2, rfl, hk2, ho2⟩; have H2 := Lib.hid (And.intro (H1.out.1.trans hk2) ho2); clear hk2 ho2)
    | (go_at_call 72; (with_reducible refine (J2.out _ _ _ H2.out.2.bys H2.out.1).mono ?_); rintro e w3 ⟨a3, c3, rfl, hk3, ho3⟩; have H3 := Lib.hid (And.intro (H2.out.1.trans hk3) (And.intro ho3 (H2.out.2.keeps hk3 (fun _ _ h => h)))); clear hk3 ho3)
    | (go_at_call 77; (with_reducible refine (JC.out _ _ _ H3.out.2.1.bys).mono ?_); rintro e w4 ⟨rfl, rfl⟩)
    | (go_at_call 48; (with_reducible refine (F2.out _).mono ?_); rintro e w5 ⟨a5, c5, rfl, hk5, ho5⟩; have H5 := Lib.hid (And.intro (H3.out.1.trans hk5) (And.intro ho5 (H3.out.2.2.keeps hk5 (fun _ _ h => h)))); clear hk5 ho5)
    | (go_at_call 72; (with_reducible refine (J3.out _ _ _ _ _ H5.out.2.2.bys H5.out.2.1.bys).mono ?_); rintro e w6 ⟨a6, c6, rfl, hk6, ho6⟩; have H6 := Lib.hid (And.intro (H5.out.1.trans hk6) ho6); clear hk6 ho6)
    | (go_at_call 72; (with_reducible refine (J4.out _ _ _ H6.out.2.bys H6.out.1).mono ?_); rintro e w7 ⟨a7, c7, rfl, hk7, ho7⟩; have H7 := Lib.hid (And.intro (H6.out.1.trans hk7) (ho7.base H6.out.1.size)); clear hk7 ho7))
  go_ret2
  obtain ⟨hn, hm, hB, hH, hHl, hH8, hs, hsl⟩ := HH.out
  refine ⟨a7, c7, ?_, H7.out.1, ?_⟩
  · rw [Nat.add_comm n 8]; rfl
  · have : frameL B = H ++ le 4 s ++ B := by rw [hs, hH]; rfl
    rw [this]; exact H7.out.2
end Wi
end Go.Proofs.YtdaindihobfokaaGreatDoor
