/-
WiB: lists one behind the other; the checksum, bit by bit.
-/
import Derived.Test.YtdaindihobfokaaGreatDoorZajWiA
namespace Go.Proofs.YtdaindihobfokaaGreatDoor
open Go.RowKit
set_option linter.unusedVariables false
set_option linter.unusedSimpArgs false
attribute [local go_sem] Oper.semAt_some
namespace Wi
open Mem
theorem Own.base {w : World} {b b' : Nat} {a : Option Addr} {c : Nat} {L : List Nat} (h : Own w b a c L) (hb : b' ≤ b) : Own w b' a c L := owns_base h hb
theorem four_t (v : Nat) (hv : v < 4294967296) (w : World) : Calls Tryz.prog 73 #[.int .u32 (v : Int)] w fun e w' => ∃ a c, e = .returned (.slice a 4 c) ∧ Keeps (fun _ => False) w w' ∧ Own w' w.heap.size a c (le 4 v) := by
  have hw : IntKind.u64.wrap (v : Int) = (v : Int) := IntWalk.u64_in _ (by omega)
  have HC := Lib.hid (fixed_t v 4 (by omega) (by omega) w)
  clear hv
  go_enter Tryz.func73, Tryz.ntmps73
  go_wp2_with (go_at_call 48; refine HC.out.mono ?_; rintro e w1 ⟨a, c, rfl, hk, ho⟩; have HO := Lib.hid (And.intro hk ho); clear hk ho)
  go_ret
  exact ⟨_, _, rfl, HO.out.1, HO.out.2⟩
/-- a slice of slices of bytes. -/
def Lists (w : World) (a : Option Addr) (LL : List (List Nat)) : Prop := ∀ i X, LL[i]? = some X → ∃ b off la lc, a = some ⟨b, off, none⟩ ∧ w.cell? ⟨b, off + i, none⟩ = some (.slice la X.length lc) ∧ Bys w la X
set_option maxHeartbeats 1000000 in
set_option maxRecDepth 20000 in
theorem join_t (n : Nat) (LL : List (List Nat)) (hn : n = LL.length) (aa : Option Addr) (ca : Nat) (w : World) (hL : Lists w aa LL) (hl : LL.flatten.length ≤ 1000000) (hn2 : n ≤ 1000000) : Calls Tryz.prog 74 #[.slice aa n ca] w fun e w' => ∃ a c N, e = .returned (.slice a N c) ∧ N = LL.flatten.length ∧ Keeps (fun _ => False) w w' ∧ Own w' w.heap.size a c LL.flatten := by
  have HN := Lib.hid (And.intro hn (And.intro hL hl))
  clear hn hL hl
  go_enter Tryz.func74, Tryz.ntmps74
  go_wp2
  go_loopw [3, 4] (fun s3 s4 wr => ∃ (acc : List Nat) (la : Option Addr) (lc i k : Nat), s3 = .slice la k lc ∧ s4 = .int .i64 (i : Int) ∧ i ≤ n ∧ k = acc.length ∧ acc ++ (LL.drop i).flatten = LL.flatten ∧ Keeps (fun _ => False) w wr ∧ Own wr w.heap.size la lc acc) (fun _ s4 _ => (n - (intOf s4).toNat))
  case atStart => exact ⟨[], none, 0, 0, 0, rfl, rfl, Nat.zero_le _, rfl, rfl, Keeps.refl _ _, World.ownsRow_nil _ _ _ _⟩
  case round =>
    obtain ⟨acc, la, lc, i, k, rfl, rfl, hi, hk, he, hK, hO⟩ := hrel
    have e2 : IntKind.i64.wrap ((i : Int) + 1) = (i : Int) + 1 := IntWalk.i64_in _ (by omega)
    have HX := Lib.hid (And.intro hk (And.intro he (And.intro hK hO)))
    clear hk he hK hO
    by_cases hlt : i < n
    · obtain ⟨X, hx⟩ : ∃ X, LL[i]? = some X := ⟨_, List.getElem?_eq_getElem (by have := HN.out.1; omega)⟩
      obtain ⟨b, off, la2, lc2, rfl, hc, hB⟩ := HN.out.2.1 i X hx
      have hc' := HX.out.2.2.1.cell (p := ⟨b, off + i, none⟩) hc (fun h => h)
      have hB' := hB.keeps HX.out.2.2.1 (far_none _)
      have hd : LL.drop i = X :: LL.drop (i + 1) := by
        obtain ⟨h1, h2⟩ := List.getElem?_eq_some_iff.1 hx
        rw [← h2]; exact List.drop_eq_getElem_cons h1
      have he2 : (acc ++ X) ++ (LL.drop (i + 1)).flatten = LL.flatten := by
        have := HX.out.2.1
        rw [hd] at this
        simpa using this
      have hlen : k + X.length ≤ 1000000 := by
        have h1 := HN.out.2.2
        rw [← he2] at h1
        simp only [List.length_append] at h1
        have := HX.out.1
        omega
      obtain ⟨m, hm⟩ : ∃ m, m = X.length := ⟨_, rfl⟩
      rw [← hm] at hc' hlen
      have HJ := Lib.hid (fun w' (h1 : Bys w' la acc) (h2 : Bys w' la2 X) => joined_t k m acc X HX.out.1 hm la la2 lc lc2 w' h1 h2 hlen)
      have HB := Lib.hid (And.intro hB' (And.intro he2 hm))
      clear hc hB hx hd he2 hlen hB' hm
      go_wp2_with (go_at_call 72; refine (HJ.out _ HX.out.2.2.2.bys HB.out.1).mono ?_; rintro e w1 ⟨a, c, rfl, hk1, ho1⟩; have HO := Lib.hid (And.intro hk1 ho1); clear hk1 ho1)
      go_roundw
      case rel => exact ⟨acc ++ X, _, _, i + 1, _, rfl, by go_num, by omega, by have := HX.out.1; have := HB.out.2.2; simp; omega, HB.out.2.1, HX.out.2.2.1.trans HO.out.1, HO.out.2.base HX.out.2.2.1.size⟩
      case measure => simp [intOf]; omega
    · obtain rfl : i = n := by omega
      go_wp2
      go_ret
      obtain ⟨hk, he, hK, hO⟩ := HX.out
      obtain rfl : acc = LL.flatten := by rw [HN.out.1, List.drop_length, List.flatten_nil, List.append_nil] at he; exact he
      exact ⟨_, _, k, rfl, hk, hK, hO⟩
end Wi
end Go.Proofs.YtdaindihobfokaaGreatDoor
