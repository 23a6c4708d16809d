/-
WiE: the sum by the table is the sum bit by bit.
-/
import Derived.Test.YtdaindihobfokaaGreatDoorZaxWiD
namespace Go.Proofs.YtdaindihobfokaaGreatDoor
open Go.RowKit
set_option linter.unusedVariables false
set_option linter.unusedSimpArgs false
attribute [local go_sem] Oper.semAt_some
namespace Wi
open Mem
theorem xor_half (a b : Nat) : (a ^^^ b) / 2 = a / 2 ^^^ b / 2 := by
  have := Nat.shiftRight_xor_distrib (a := a) (b := b) (i := 1)
  simpa [Nat.shiftRight_eq_div_pow] using this
theorem xor_par (a b : Nat) : (a ^^^ b) % 2 = (a % 2 + b % 2) % 2 := by
  have := Nat.xor_mod_two_pow (a := a) (b := b) (n := 1)
  simp only [Nat.pow_one] at this
  rw [this]
  rcases Nat.mod_two_eq_zero_or_one a with ha | ha <;> rcases Nat.mod_two_eq_zero_or_one b with hb | hb <;> rw [ha, hb] <;> decide
theorem rb_xor (a b : Nat) : rb (a ^^^ b) = rb a ^^^ rb b := by
  unfold rb
  rw [xor_half, xor_par]
  rcases Nat.mod_two_eq_zero_or_one a with ha | ha <;> rcases Nat.mod_two_eq_zero_or_one b with hb | hb <;> rw [ha, hb] <;> simp
  · rw [Nat.xor_assoc]
  · rw [Nat.xor_assoc, Nat.xor_assoc, Nat.xor_comm 3988292384 (b / 2)]
  · rw [Nat.xor_assoc, ← Nat.xor_assoc 3988292384 (b / 2), Nat.xor_comm 3988292384 (b / 2), Nat.xor_assoc, Nat.xor_self, Nat.xor_zero]
theorem rbs_xor : ∀ j a b, rbs j (a ^^^ b) = rbs j a ^^^ rbs j b
  | 0, _, _ => rfl
  | j + 1, a, b => by simp only [rbs, rb_xor, rbs_xor j]
theorem rbs_high (h : Nat) : rbs 8 (h * 256) = h := by
  have e : ∀ k : Nat, rb (2 * k) = k := fun k => by unfold rb; rw [if_neg (by omega)]; omega
  rw [show h * 256 = 2 * (2 * (2 * (2 * (2 * (2 * (2 * (2 * h))))))) by omega]
  simp only [rbs, e]
theorem split_xor (r : Nat) : r = (r / 256 * 256) ^^^ (r % 256) := by
  have h := Nat.div_add_mod r 256
  have h2 := Nat.two_pow_add_eq_or_of_lt (i := 8) (Nat.mod_lt r (by decide : 0 < 2 ^ 8)) (r / 256)
  have h3 : ((r / 256 * 256) ^^^ (r % 256)) = ((r / 256 * 256) ||| (r % 256)) := by
    apply Nat.eq_of_testBit_eq
    intro i
    rw [Nat.testBit_xor, Nat.testBit_or]
    by_cases hi : i < 8
    · have : (r / 256 * 256).testBit i = false := by
        rw [show r / 256 * 256 = 2 ^ 8 * (r / 256) by omega, Nat.testBit_two_pow_mul]
        simp; omega
      rw [this]; simp
    · have : (r % 256).testBit i = false := by
        rw [show (256 : Nat) = 2 ^ 8 by decide, Nat.testBit_mod_two_pow]
        simp; omega
      rw [this]; simp
  rw [h3, show r / 256 * 256 = 2 ^ 8 * (r / 256) by omega]
  simp only [show (256 : Nat) = 2 ^ 8 by decide] at *
  omega
/-- one byte by the table -/
def tb (r x : Nat) : Nat := (r / 256) ^^^ rbs 8 ((r % 256) ^^^ x)
theorem tb_eq (r x : Nat) : tb r x = rbs 8 (r ^^^ x) := by
  have e : r ^^^ x = (r / 256 * 256) ^^^ ((r % 256) ^^^ x) := by rw [← Nat.xor_assoc, ← split_xor]
  rw [e, rbs_xor, rbs_high]; rfl
set_option maxHeartbeats 1000000 in
set_option maxRecDepth 20000 in
theorem more_t (T n r0 : Nat) (L : List Nat) (hn : n = L.length) (aa : Option Addr) (ca : Nat) (w : World) (hT : Blk w T 242 (tabL 256)) (hB : Bys w aa L) (h8 : ∀ x ∈ L, x < 256) (hr0 : r0 < 4294967296) (hl : n ≤ 1000000) : Calls Tryz.prog 193 #[.pointer (some ⟨T, 0, none⟩), .int .u32 (r0 : Int), .slice aa n ca] w fun e w' => e = .returned (.int .u32 ((crcN L r0 : Nat) : Int)) ∧ w = w' := by
  have HN := Lib.hid (And.intro hn (And.intro hB h8))
  have HR := Lib.hid hr0
  clear hn hB h8 hr0
  go_enter Tryz.func193, Tryz.ntmps193
  go_wp2
  go_loopw [1, 11] (fun s1 s11 wr => ∃ (r i : Nat), s1 = .int .u32 (r : Int) ∧ s11 = .int .i64 (i : Int) ∧ i ≤ n ∧ r < 4294967296 ∧ crcN (L.drop i) r = crcN L r0 ∧ wr = w) (fun _ s11 _ => (n - (intOf s11).toNat))
  case atStart => exact ⟨r0, 0, rfl, rfl, Nat.zero_le _, HR.out, rfl, rfl⟩
  case round =>
    obtain ⟨r, i, rfl, rfl, hi, hr, he, rfl⟩ := hrel
    have e2 : IntKind.i64.wrap ((i : Int) + 1) = (i : Int) + 1 := IntWalk.i64_in _ (by omega)
    by_cases hlt : i < n
    · obtain ⟨x, hx⟩ : ∃ x, L[i]? = some x := ⟨_, List.getElem?_eq_getElem (by have := HN.out.1; omega)⟩
      obtain ⟨b, off, rfl, hc⟩ := HN.out.2.1 i x hx
      have hx8 : x < 256 := HN.out.2.2 x (List.mem_of_getElem? hx)
      have hd : L.drop i = x :: L.drop (i + 1) := by
        obtain ⟨h1, h2⟩ := List.getElem?_eq_some_iff.1 hx
        rw [← h2]; exact List.drop_eq_getElem_cons h1
      have hxo : bits .xor .u8 ((r : Int) % 256) (x : Int) = (((r % 256) ^^^ x : Nat) : Int) := xor8 (r % 256) x (by omega) hx8
      obtain ⟨ix, hix⟩ : ∃ ix, ix = (r % 256) ^^^ x := ⟨_, rfl⟩
      have hixl : ix < 256 := by rw [hix]; exact xor_lt 8 (by omega) (by omega)
      rw [← hix] at hxo
      have c1 := hT.cell ix
      rw [tab_get _ _ hixl, if_pos hixl] at c1
      have hx2 : bits .xor .u32 ((r : Int) / 256) ((rbs 8 ix : Nat) : Int) = ((r / 256 ^^^ rbs 8 ix : Nat) : Int) := xor32 (r / 256) (rbs 8 ix) (by omega) (rbs_lt _ _ (by omega))
      have htb : r / 256 ^^^ rbs 8 ix = rbs 8 (r ^^^ x) := by rw [← tb_eq, hix]; rfl
      rw [htb] at hx2
      rw [hd] at he
      have HE := Lib.hid (And.intro (show crcN (L.drop (i + 1)) (rbs 8 (r ^^^ x)) = crcN L r0 from he) (show rbs 8 (r ^^^ x) < 4294967296 from rbs_lt _ _ (xor_lt 32 (by omega) (by omega))))
      have hi2 : ((ix : Int) < 256) := by omega
      clear hx hd he hx8 hr htb hix hixl
      go_wp2
      go_roundw
      case rel => exact ⟨rbs 8 (r ^^^ x), i + 1, rfl, by go_num, by omega, HE.out.2, HE.out.1, by first | rfl | trivial⟩
      case measure => simp [intOf]; omega
    · obtain rfl : i = n := by omega
      go_wp2
      go_ret
      rw [HN.out.1, List.drop_length] at he
      have hr' : r = crcN L r0 := he
      rw [← hr']
      exact ⟨rfl, rfl⟩
theorem crcN_app (A B : List Nat) (r : Nat) : crcN (A ++ B) r = crcN B (crcN A r) := by simp [crcN]
theorem crcN_lt : ∀ (L : List Nat) (r : Nat), (∀ x ∈ L, x < 256) → r < 4294967296 → crcN L r < 4294967296
  | [], r, _, h => h
  | x :: L, r, hx, h => by
    have h1 : x < 256 := hx x (by simp)
    exact crcN_lt L _ (fun y hy => hx y (by simp [hy])) (rbs_lt _ _ (xor_lt 32 (by omega) (by omega)))
/-- the checksum -/
def crcOf (L : List Nat) : Nat := 4294967295 ^^^ crcN L 4294967295
set_option maxHeartbeats 1000000 in
set_option maxRecDepth 20000 in
theorem wcrc_t (T n m : Nat) (A B : List Nat) (hn : n = A.length) (hm : m = B.length) (aa ab : Option Addr) (ca cb : Nat) (w : World) (hT : Blk w T 242 (tabL 256)) (hA : Bys w aa A) (hB : Bys w ab B) (h8 : ∀ x ∈ A, x < 256) (h8b : ∀ x ∈ B, x < 256) (hl : n ≤ 1000000) (hl2 : m ≤ 1000000) : Calls Tryz.prog 148 #[.pointer (some ⟨T, 0, none⟩), .slice aa n ca, .slice ab m cb] w fun e w' => e = .returned (.int .u32 ((crcOf (A ++ B) : Nat) : Int)) ∧ w = w' := by
  have HA := Lib.hid (show Calls Tryz.prog 193 #[.pointer (some ⟨T, 0, none⟩), .int .u32 4294967295, .slice aa n ca] w _ from more_t T n 4294967295 A hn aa ca w hT hA h8 (by omega) hl)
  have HB := Lib.hid (more_t T m (crcN A 4294967295) B hm ab cb w hT hB h8b (crcN_lt A _ h8 (by omega)) hl2)
  have hx := xor32 4294967295 (crcN (A ++ B) 4294967295) (by omega) (crcN_lt _ _ (fun x hx => (List.mem_append.1 hx).elim (h8 x) (h8b x)) (by omega))
  rw [crcN_app] at hx
  have HX := Lib.hid hx
  clear hn hm hT hA hB h8 h8b hl hl2 hx
  go_enter Tryz.func148, Tryz.ntmps148
  go_wp2_with (first
    | (go_at_call 193; (with_reducible refine HA.out.mono ?_); rintro e w1 ⟨rfl, rfl⟩)
    | (go_at_call 193; (with_reducible refine HB.out.mono ?_); rintro e w1 ⟨rfl, rfl⟩))
  go_ret
  refine ⟨congrArg (fun x => Ending.returned (Value.int .u32 x)) ?_, rfl⟩
  unfold crcOf
  rw [crcN_app]
  exact HX.out
end Wi
end Go.Proofs.YtdaindihobfokaaGreatDoor
