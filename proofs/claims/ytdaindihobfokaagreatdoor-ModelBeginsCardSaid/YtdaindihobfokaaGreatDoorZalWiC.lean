/-
WiC: the checksum, bit by bit.
-/
import Derived.Test.YtdaindihobfokaaGreatDoorZakWiB
import Derived.Laws.BitsLemmas
import Derived.Laws.Closers25b
namespace Go.Proofs.YtdaindihobfokaaGreatDoor
open Go.RowKit
set_option linter.unusedVariables false
set_option linter.unusedSimpArgs false
attribute [local go_sem] Oper.semAt_some
namespace Wi
open Mem
theorem wr32 (n : Int) (h0 : 0 ≤ n) (h1 : n < 2 ^ 32) : IntKind.u32.wrap n = n := IntWalk.u32_in _ (by omega)
theorem wr64 (n : Int) (h0 : 0 ≤ n) (h1 : n < 2 ^ 64) : IntKind.u64.wrap n = n := IntWalk.u64_in _ (by omega)
theorem wr8 (n : Int) (h0 : 0 ≤ n) (h1 : n < 2 ^ 8) : IntKind.u8.wrap n = n := IntWalk.u8_in _ (by omega)
theorem and32 (a b : Nat) (ha : a < 4294967296) (hb : b < 4294967296) : bits .and .u32 (a : Int) (b : Int) = ((a &&& b : Nat) : Int) := (bits_nat .u32 32 (by decide) wr32 a b (by omega) (by omega)).1
theorem xor_nat (k : IntKind) (j : Nat) (hj : j ≤ k.bits) (hk : ∀ n : Int, 0 ≤ n → n < 2 ^ j → k.wrap n = n) (a b : Nat) (ha : a < 2 ^ j) (hb : b < 2 ^ j) : bits .xor k (a : Int) (b : Int) = ((a ^^^ b : Nat) : Int) := by
  have hp : 2 ^ j ≤ 2 ^ k.bits := Nat.pow_le_pow_right (by decide) hj
  have ha' : a % 2 ^ k.bits = a := Nat.mod_eq_of_lt (Nat.lt_of_lt_of_le ha hp)
  have hb' : b % 2 ^ k.bits = b := Nat.mod_eq_of_lt (Nat.lt_of_lt_of_le hb hp)
  have cast : ∀ n : Nat, n < 2 ^ j → ((n : Nat) : Int) < 2 ^ j := fun n h => by exact_mod_cast h
  simp only [bits, BitVec.ofInt_natCast, BitVec.toNat_xor, BitVec.toNat_ofNat, ha', hb']
  exact hk _ (Int.natCast_nonneg _) (cast _ (Nat.xor_lt_two_pow ha hb))
theorem xor32 (a b : Nat) (ha : a < 4294967296) (hb : b < 4294967296) : bits .xor .u32 (a : Int) (b : Int) = ((a ^^^ b : Nat) : Int) := xor_nat .u32 32 (by decide) wr32 a b (by omega) (by omega)
theorem or32 (a b : Nat) (ha : a < 4294967296) (hb : b < 4294967296) : bits .or .u32 (a : Int) (b : Int) = ((a ||| b : Nat) : Int) := (bits_nat .u32 32 (by decide) wr32 a b (by omega) (by omega)).2
theorem or64 (a b : Nat) (ha : a < 18446744073709551616) (hb : b < 18446744073709551616) : bits .or .u64 (a : Int) (b : Int) = ((a ||| b : Nat) : Int) := (bits_nat .u64 64 (by decide) wr64 a b (by omega) (by omega)).2
theorem xor8 (a b : Nat) (ha : a < 256) (hb : b < 256) : bits .xor .u8 (a : Int) (b : Int) = ((a ^^^ b : Nat) : Int) := xor_nat .u8 8 (by decide) wr8 a b (by omega) (by omega)
/-- one bit of the checksum -/
def rb (r : Nat) : Nat := if r % 2 = 1 then (r / 2) ^^^ 3988292384 else r / 2
def rbs : Nat → Nat → Nat
  | 0, r => r
  | j + 1, r => rbs j (rb r)
theorem xor_lt {a b : Nat} (n : Nat) (ha : a < 2 ^ n) (hb : b < 2 ^ n) : a ^^^ b < 2 ^ n := Nat.xor_lt_two_pow ha hb
theorem rb_lt {r : Nat} (h : r < 4294967296) : rb r < 4294967296 := by
  unfold rb
  split
  · exact xor_lt 32 (by omega) (by omega)
  · omega
theorem rbs_lt : ∀ j r, r < 4294967296 → rbs j r < 4294967296
  | 0, _, h => h
  | j + 1, r, h => rbs_lt j _ (rb_lt h)
/-- the sum over some bytes, carried on -/
def crcN (L : List Nat) (r : Nat) : Nat := L.foldl (fun r c => rbs 8 (r ^^^ c)) r
set_option maxHeartbeats 1000000 in
set_option maxRecDepth 20000 in
theorem crc_t (n : Nat) (L : List Nat) (hn : n = L.length) (aa : Option Addr) (ca : Nat) (w : World) (hB : Bys w aa L) (h8 : ∀ x ∈ L, x < 256) (hl : n ≤ 1000000) : Calls Tryz.prog 77 #[.slice aa n ca] w fun e w' => e = .returned (.int .u32 ((4294967295 ^^^ crcN L 4294967295 : Nat) : Int)) ∧ w = w' := by
  have HN := Lib.hid (And.intro hn (And.intro hB h8))
  clear hn hB h8
  go_enter Tryz.func77, Tryz.ntmps77
  go_wp2
  go_loopw [3, 4] (fun s3 s4 wr => ∃ (r i : Nat), s3 = .int .u32 (r : Int) ∧ s4 = .int .i64 (i : Int) ∧ i ≤ n ∧ r < 4294967296 ∧ crcN (L.drop i) r = crcN L 4294967295 ∧ wr = w) (fun _ s4 _ => (n - (intOf s4).toNat))
  case atStart => exact ⟨4294967295, 0, rfl, rfl, Nat.zero_le _, by omega, rfl, rfl⟩
  case round =>
    obtain ⟨r, i, rfl, rfl, hi, hr, he, rfl⟩ := hrel
    have e2 : IntKind.i64.wrap ((i : Int) + 1) = (i : Int) + 1 := IntWalk.i64_in _ (by omega)
    by_cases hlt : i < n
    · obtain ⟨x, hx⟩ : ∃ x, L[i]? = some x := ⟨_, List.getElem?_eq_getElem (by have := HN.out.1; omega)⟩
      obtain ⟨b, off, rfl, hc⟩ := HN.out.2.1 i x hx
      have hx8 : x < 256 := HN.out.2.2 x (List.mem_of_getElem? hx)
      have hd : L.drop i = x :: L.drop (i + 1) := by
        obtain ⟨h1, h2⟩ := List.getElem?_eq_some_iff.1 hx
        rw [← h2]; exact List.drop_eq_getElem_cons h1
      have hw : IntKind.u32.wrap (x : Int) = (x : Int) := IntWalk.u32_in _ (by omega)
      have hxo := xor32 r x hr (by omega)
      rw [hd] at he
      have HE := Lib.hid (show crcN (L.drop (i + 1)) (rbs 8 (r ^^^ x)) = crcN L 4294967295 from he)
      have HR := Lib.hid (show r ^^^ x < 4294967296 from xor_lt 32 (by omega) (by omega))
      clear hx hd he hx8 hr
      go_wp2
      clear hxo hw hc
      go_loopw [3, 5, 6] (fun s3 s5 s6 wr2 => ∃ (u j : Nat), s3 = .int .u32 (u : Int) ∧ s5 = .int .i64 (j : Int) ∧ j ≤ 8 ∧ u < 4294967296 ∧ rbs (8 - j) u = rbs 8 (r ^^^ x) ∧ wr2 = wr) (fun _ s5 _ _ => (8 - (intOf s5).toNat))
      case atStart => exact ⟨r ^^^ x, 0, rfl, rfl, Nat.zero_le _, HR.out, rfl, rfl⟩
      case round =>
        obtain ⟨u, j, rfl, rfl, hj, hu, he, rfl⟩ := hrel
        have e3 : IntKind.i64.wrap ((j : Int) + 1) = (j : Int) + 1 := IntWalk.i64_in _ (by omega)
        by_cases hlt2 : j < 8
        · have hs : rbs (8 - (j + 1)) (rb u) = rbs 8 (r ^^^ x) := by rw [← he, show 8 - j = (8 - (j + 1)) + 1 by omega]; rfl
          have HS := Lib.hid (And.intro hs (And.intro (rb_lt hu) hu))
          have ha := and32 u 1 hu (by omega)
          have hx2 := xor32 (u / 2) 3988292384 (by omega) (by omega)
          have hun : u &&& 1 = u % 2 := Nat.and_one_is_mod u
          rw [hun] at ha
          clear hs he hu hun
          rcases (by omega : u % 2 = 0 ∨ u % 2 = 1) with h0 | h0
          · rw [h0] at ha
            have ha' : bits .and .u32 (u : Int) 1 = 0 := ha
            clear ha
            go_wp2
            go_roundw
            case rel =>
              refine ⟨rb u, j + 1, ?_, by go_num, by omega, HS.out.2.1, HS.out.1, by first | rfl | trivial⟩
              unfold rb; rw [if_neg (by omega)]; rfl
            case measure => simp [intOf]; omega
          · rw [h0] at ha
            have ha' : bits .and .u32 (u : Int) 1 = 1 := ha
            have hx2' : bits .xor .u32 ((u : Int) / 2) 3988292384 = ((u / 2 ^^^ 3988292384 : Nat) : Int) := hx2
            clear ha hx2
            go_wp2
            go_roundw
            case rel =>
              refine ⟨rb u, j + 1, ?_, by go_num, by omega, HS.out.2.1, HS.out.1, by first | rfl | trivial⟩
              unfold rb; rw [if_pos h0]
            case measure => simp [intOf]; omega
        · obtain rfl : j = 8 := by omega
          go_wp2
          go_roundw
          case rel => exact ⟨u, i + 1, rfl, by go_num, by omega, hu, by rw [show u = rbs 8 (r ^^^ x) from he]; exact HE.out, by first | rfl | trivial⟩
          case measure => simp [intOf]; omega
    · obtain rfl : i = n := by omega
      go_wp2
      go_ret
      rw [HN.out.1, List.drop_length] at he
      have hr' : r = crcN L 4294967295 := he
      rw [← hr']
      refine ⟨congrArg (fun x => Ending.returned (Value.int .u32 x)) ?_, rfl⟩
      exact xor32 4294967295 r (by omega) hr
end Wi
end Go.Proofs.YtdaindihobfokaaGreatDoor
