/-
WiA: bytes: rows of bytes, a number in so many bytes, one list behind the other.
-/
import Derived.Test.YtdaindihobfokaaGreatDoorZadAppAppGAppH
import Derived.Handy
import Derived.Deep.LoopGhost
namespace Go.Proofs.YtdaindihobfokaaGreatDoor
open Go.RowKit
set_option linter.unusedVariables false
set_option linter.unusedSimpArgs false
attribute [local go_sem] Oper.semAt_some
namespace Wi
open Mem
def bt : Nat → List Value := fun x => [.int .u8 (x : Int)]
theorem bInfo : (Tryz.prog.info? 5).map (fun i => (i.zero, i.size, i.bytes)) = some (some (.int .u8 0), 1, 1) := by kernel_rfl
theorem elB : ElT Tryz.prog 65 5 bt 1 := by
  obtain ⟨i, hi, he⟩ := Option.map_eq_some_iff.1 bInfo
  simp only [Prod.mk.injEq] at he
  obtain ⟨h1, h2, h3⟩ := he
  exact ⟨Tryz.underlying65, ⟨i, _, hi, h1, h2, by omega, rfl⟩, by decide, fun _ => rfl, fun x u hu => by simp [bt] at hu; subst hu; rfl⟩
/-- a slice of bytes that reads as L. -/
def Bys (w : World) (a : Option Addr) (L : List Nat) : Prop := ∀ i x, L[i]? = some x → ∃ b off, a = some ⟨b, off, none⟩ ∧ w.cell? ⟨b, off + i, none⟩ = some (.int .u8 ((x : Nat) : Int))
/-- it lies outside of S. -/
def Far (a : Option Addr) (S : Nat → Prop) : Prop := ∀ b off p, a = some ⟨b, off, p⟩ → ¬ S b
theorem Bys.keeps {w w' : World} {a : Option Addr} {L : List Nat} {S : Nat → Prop} (h : Bys w a L) (k : Keeps S w w') (hf : Far a S) : Bys w' a L := by
  intro i x hx
  obtain ⟨b, off, rfl, hc⟩ := h i x hx
  exact ⟨b, off, rfl, k.cell (p := ⟨b, off + i, none⟩) hc (hf b off none rfl)⟩
theorem far_none (a : Option Addr) : Far a (fun _ => False) := fun _ _ _ _ h => h
theorem flat_bt (L : List Nat) (i : Nat) : (L.flatMap bt)[i]? = (L[i]?).map (fun x => .int .u8 (x : Int)) := by
  induction L generalizing i with
  | nil => simp
  | cons y L ih =>
    cases i with
    | zero => simp [bt]
    | succ i => simpa [bt] using ih i
/-- a slice of bytes of one's own. -/
def Own (w : World) (base : Nat) (a : Option Addr) (c : Nat) (L : List Nat) : Prop := w.ownsRow base 5 1 (.slice a L.length c) L.length (L.flatMap bt)
theorem Own.bys {w : World} {base : Nat} {a : Option Addr} {c : Nat} {L : List Nat} (h : Own w base a c L) : Bys w a L := by
  intro i x hx
  rcases h.2 with ⟨he, hn⟩ | ⟨g, cap, cur, he, hb, hg, h1, h2⟩
  · have hl : L.length = 0 := by injection he
    rw [List.eq_nil_of_length_eq_zero hl] at hx; simp at hx
  · obtain ⟨rfl, _, rfl⟩ : a = some ⟨g, 0, none⟩ ∧ True ∧ c = cap := by injection he with e1 e2 e3; exact ⟨e1, trivial, e3⟩
    have := World.ownsRow.cells h (g := g) rfl i (.int .u8 (x : Int)) (by rw [flat_bt, hx]; rfl)
    exact ⟨g, 0, rfl, by rw [Nat.zero_add]; rw [Addr.add_mid, Nat.zero_add] at this; exact this⟩
theorem Own.far {w : World} {base : Nat} {a : Option Addr} {c : Nat} {L : List Nat} (h : Own w base a c L) {S : Nat → Prop} (hS : ∀ k, base ≤ k → ¬ S k) : Far a S := by
  intro b off p e hs
  subst e
  rcases h.2 with ⟨he, hn⟩ | ⟨g, cap, cur, he, hb, hg, h1, h2⟩
  · injection he with e1; cases e1
  · injection he with e1
    injection e1 with e1
    injection e1 with e1 e2 e3
    subst e1
    exact hS _ hb hs
theorem Own.keeps {w w' : World} {base : Nat} {a : Option Addr} {c : Nat} {L : List Nat} {S : Nat → Prop} (h : Own w base a c L) (k : Keeps S w w') (hS : ∀ b, base ≤ b → ¬ S b) : Own w' base a c L :=
  owns_keeps h k (fun b e => hS b (h.lt b e).1)
theorem Own.n {w : World} {base n : Nat} {a : Option Addr} {c : Nat} {L : List Nat} (h : w.ownsRow base 5 1 (.slice a n c) n (L.flatMap bt)) (hn : n = L.length) : Own w base a c L := by subst hn; exact h
/-- the n lowest bytes of a number, the lowest first. -/
def le : Nat → Nat → List Nat
  | 0, _ => []
  | n + 1, v => v % 256 :: le n (v / 256)
theorem le_len : ∀ n v, (le n v).length = n
  | 0, _ => rfl
  | n + 1, v => by simp [le, le_len n]
set_option maxHeartbeats 1000000 in
set_option maxRecDepth 20000 in
theorem fixed_t (v n : Nat) (hv : v < 18446744073709551616) (hn : n ≤ 8) (w : World) : Calls Tryz.prog 48 #[.int .u64 (v : Int), .int .i64 (n : Int)] w fun e w' => ∃ a c, e = .returned (.slice a n c) ∧ Keeps (fun _ => False) w w' ∧ Own w' w.heap.size a c (le n v) := by
  go_enter Tryz.func48, Tryz.ntmps48
  go_wp2
  go_loopw [0, 5, 6] (fun s0 s5 s6 wr => ∃ (acc : List Nat) (u : Nat) (la : Option Addr) (lc i : Nat), s0 = .int .u64 (u : Int) ∧ s5 = .slice la i lc ∧ s6 = .int .i64 (i : Int) ∧ u < 18446744073709551616 ∧ i ≤ n ∧ i = acc.length ∧ acc ++ le (n - i) u = le n v ∧ Keeps (fun _ => False) w wr ∧ wr.ownsRow w.heap.size 5 1 (.slice la i lc) i (acc.flatMap bt)) (fun _ _ s6 _ => (n - (intOf s6).toNat))
  case atStart => exact ⟨[], v, none, 0, 0, rfl, rfl, rfl, hv, Nat.zero_le _, rfl, rfl, Keeps.refl _ _, World.ownsRow_nil _ _ _ _⟩
  case round =>
    obtain ⟨acc, u, la, lc, i, rfl, rfl, rfl, hu, hi, hl, he, hK, hO⟩ := hrel
    have e2 : IntKind.i64.wrap ((i : Int) + 1) = (i : Int) + 1 := IntWalk.i64_in _ (by omega)
    have hil : i ≤ 1000000000 := by omega
    have HL := Lib.hid hil
    have HX := Lib.hid (And.intro hl (And.intro he (And.intro hK hO)))
    clear hl he hK hO hil
    by_cases hlt : i < n
    · have HU := Lib.hid hu
      clear hu
      go_wp2_with (at_builtin; refine app_f elB rfl (.tmp 12) (.tmp 15) rfl w.heap.size acc i la lc rfl (HX.out.2.2.2.alloc _) (u % 256) wr.heap.size rfl (by exact Mem.news_new wr _ [_]) HL.out ((Keeps.alloc HX.out.2.2.1 _).size) ?_; intro g' cap' w7 hown hgrow; have HG := Lib.hid (And.intro hown hgrow); clear hown hgrow)
      go_roundw
      case rel =>
        obtain ⟨hl, he, hK, hO⟩ := HX.out
        have gb : ∀ (k : Nat), k < wr.heap.size → (Value.slice la i lc).ownBlock = some k → w.heap.size ≤ k := fun k _ e => (hO.lt k e).1
        have kg := (Keeps.refl (fun k => (Value.slice la i lc).ownBlock = some k) wr).alloc (.cells #[.int .u8 ((u % 256 : Nat) : Int)] 5) |>.grown HG.out.2 (fun k _ e => e)
        refine ⟨acc ++ [u % 256], u / 256, _, _, i + 1, ?_, rfl, by go_num, by have := HU.out; omega, by omega, by simp; omega, ?_, ?_, HG.out.1⟩
        · rfl
        · rw [← he, show n - i = (n - (i + 1)) + 1 by omega]; simp [le]
        · exact hK.then kg (fun k hk e => absurd (gb k (Nat.lt_of_lt_of_le hk hK.size) e) (by omega))
      case measure => simp [intOf]; omega
    · obtain rfl : i = n := by omega
      go_wp2
      go_ret
      obtain ⟨hl, he, hK, hO⟩ := HX.out
      refine ⟨_, _, rfl, hK, Own.n ?_ (le_len i v).symm⟩
      rw [Nat.sub_self] at he
      simp only [le, List.append_nil] at he
      rw [← he]
      exact hO
theorem Own.app {w0 w w7 : World} {base : Nat} {la : Option Addr} {lc n : Nat} {acc : List Nat} {x : Nat} (hK : Keeps (fun _ => False) w0 w) (hb : base = w0.heap.size) (hO : w.ownsRow base 5 1 (.slice la n lc) n (acc.flatMap bt)) (hG : (w.alloc (.cells #[.int .u8 (x : Int)] 5)).grownBy w7 (Value.slice la n lc).ownBlock) : Keeps (fun _ => False) w0 w7 := by
  have gb : ∀ (k : Nat), k < w.heap.size → (Value.slice la n lc).ownBlock = some k → base ≤ k := fun k _ e => (hO.lt k e).1
  have kg := (Keeps.refl (fun k => (Value.slice la n lc).ownBlock = some k) w).alloc (.cells #[.int .u8 (x : Int)] 5) |>.grown hG (fun k _ e => e)
  exact hK.then kg (fun k hk e => absurd (gb k (Nat.lt_of_lt_of_le hk hK.size) e) (by omega))
set_option maxHeartbeats 1000000 in
set_option maxRecDepth 20000 in
theorem joined_t (n m : Nat) (A B : List Nat) (hn : n = A.length) (hm : m = B.length) (aa ab : Option Addr) (ca cb : Nat) (w : World) (hA : Bys w aa A) (hB : Bys w ab B) (hl : n + m ≤ 1000000) : Calls Tryz.prog 72 #[.slice aa n ca, .slice ab m cb] w fun e w' => ∃ a c, e = .returned (.slice a (n + m : Nat) c) ∧ Keeps (fun _ => False) w w' ∧ Own w' w.heap.size a c (A ++ B) := by
  have HN := Lib.hid (And.intro hn (And.intro hm (And.intro hA hB)))
  clear hn hm hA hB
  have HLL := Lib.hid hl
  have hln : n ≤ 1000000 := by omega
  have hlm : m ≤ 1000000 := by omega
  have HLN := Lib.hid (And.intro hln hlm)
  clear hl hln hlm
  go_enter Tryz.func72, Tryz.ntmps72
  go_wp2
  go_loopw [5, 6] (fun s5 s6 wr => ∃ (acc : List Nat) (la : Option Addr) (lc i : Nat), s5 = .slice la i lc ∧ s6 = .int .i64 (i : Int) ∧ i ≤ n ∧ i = acc.length ∧ acc ++ A.drop i = A ∧ Keeps (fun _ => False) w wr ∧ wr.ownsRow w.heap.size 5 1 (.slice la i lc) i (acc.flatMap bt)) (fun _ s6 _ => (n - (intOf s6).toNat))
  case atStart => exact ⟨[], none, 0, 0, rfl, rfl, Nat.zero_le _, rfl, rfl, Keeps.refl _ _, World.ownsRow_nil _ _ _ _⟩
  case round =>
    obtain ⟨acc, la, lc, i, rfl, rfl, hi, hl, he, hK, hO⟩ := hrel
    have hin : i ≤ 1000000 := Nat.le_trans hi HLN.out.1
    have e2 : IntKind.i64.wrap ((i : Int) + 1) = (i : Int) + 1 := IntWalk.i64_in _ (by omega)
    have hil : i ≤ 1000000000 := by omega
    have HL := Lib.hid hil
    have HX := Lib.hid (And.intro hl (And.intro he (And.intro hK hO)))
    clear hl he hK hO hil hin
    by_cases hlt : i < n
    · obtain ⟨x, hx⟩ : ∃ x, A[i]? = some x := ⟨_, List.getElem?_eq_getElem (by have := HN.out.1; omega)⟩
      obtain ⟨b, off, rfl, hc⟩ := HN.out.2.2.1 i x hx
      have hc' := HX.out.2.2.1.cell (p := ⟨b, off + i, none⟩) hc (fun h => h)
      have HXX := Lib.hid hx
      clear hc hx
      go_wp2_with (at_builtin; refine app_f elB rfl (.tmp 14) (.tmp 19) rfl w.heap.size acc i la lc rfl (HX.out.2.2.2.alloc _) x wr.heap.size rfl (by exact Mem.news_new wr _ [_]) HL.out ((Keeps.alloc HX.out.2.2.1 _).size) ?_; intro g' cap' w7 hown hgrow; have HG := Lib.hid (And.intro hown hgrow); clear hown hgrow)
      go_roundw
      case rel =>
        obtain ⟨hl, he, hK, hO⟩ := HX.out
        refine ⟨acc ++ [x], _, _, i + 1, rfl, by go_num, by omega, by simp; omega, ?_, Own.app hK rfl hO HG.out.2, HG.out.1⟩
        have hd : A.drop i = x :: A.drop (i + 1) := by
          obtain ⟨h1, h2⟩ := List.getElem?_eq_some_iff.1 HXX.out
          rw [← h2]; exact List.drop_eq_getElem_cons h1
        rw [hd] at he
        simpa using he
      case measure => simp [intOf]; omega
    · obtain rfl : i = n := by omega
      obtain ⟨hl, he, hK, hO⟩ := HX.out
      obtain rfl : acc = A := by rw [HN.out.1, List.drop_length, List.append_nil] at he; exact he
      have HY := Lib.hid (And.intro hK hO)
      clear hl he hK hO HX HL e2 hlt
      go_wp2
      go_loopw [5, 7] (fun s5 s7 wr2 => ∃ (acc2 : List Nat) (la2 : Option Addr) (lc2 j : Nat), s5 = .slice la2 (i + j : Nat) lc2 ∧ s7 = .int .i64 (j : Int) ∧ j ≤ m ∧ j = acc2.length ∧ acc2 ++ B.drop j = B ∧ Keeps (fun _ => False) w wr2 ∧ wr2.ownsRow w.heap.size 5 1 (.slice la2 (i + j : Nat) lc2) (i + j) ((acc ++ acc2).flatMap bt)) (fun _ s7 _ => (m - (intOf s7).toNat))
      case atStart => exact ⟨[], la, lc, 0, rfl, rfl, Nat.zero_le _, rfl, rfl, HY.out.1, by simpa using HY.out.2⟩
      case round =>
        obtain ⟨acc2, la2, lc2, j, rfl, rfl, hj, hl, he, hK, hO⟩ := hrel
        have hjm : j ≤ 1000000 := Nat.le_trans hj HLN.out.2
        have e2 : IntKind.i64.wrap ((j : Int) + 1) = (j : Int) + 1 := IntWalk.i64_in _ (by omega)
        have hil : i + j ≤ 1000000000 := by have := HLN.out; omega
        have HL := Lib.hid hil
        have HX := Lib.hid (And.intro hl (And.intro he (And.intro hK hO)))
        clear hl he hK hO hil hjm
        by_cases hlt : j < m
        · obtain ⟨x, hx⟩ : ∃ x, B[j]? = some x := ⟨_, List.getElem?_eq_getElem (by have := HN.out.2.1; omega)⟩
          obtain ⟨b, off, rfl, hc⟩ := HN.out.2.2.2 j x hx
          have hc' := HX.out.2.2.1.cell (p := ⟨b, off + j, none⟩) hc (fun h => h)
          have HXX := Lib.hid hx
          clear hc hx
          go_wp2_with (at_builtin; refine app_f elB rfl (.tmp 27) (.tmp 32) rfl w.heap.size (acc ++ acc2) (i + j) la2 lc2 rfl (HX.out.2.2.2.alloc _) x wr.heap.size rfl (by exact Mem.news_new wr _ [_]) HL.out ((Keeps.alloc HX.out.2.2.1 _).size) ?_; intro g' cap' w7 hown hgrow; have HG := Lib.hid (And.intro hown hgrow); clear hown hgrow)
          go_roundw
          case rel =>
            obtain ⟨hl, he, hK, hO⟩ := HX.out
            refine ⟨acc2 ++ [x], _, _, j + 1, rfl, by go_num, by omega, by simp; omega, ?_, Own.app hK rfl hO HG.out.2, by rw [← List.append_assoc]; exact HG.out.1⟩
            have hd : B.drop j = x :: B.drop (j + 1) := by
              obtain ⟨h1, h2⟩ := List.getElem?_eq_some_iff.1 HXX.out
              rw [← h2]; exact List.drop_eq_getElem_cons h1
            rw [hd] at he
            simpa using he
          case measure => simp [intOf]; omega
        · obtain rfl : j = m := by omega
          go_wp2
          go_ret
          obtain ⟨hl, he, hK, hO⟩ := HX.out
          obtain rfl : acc2 = B := by rw [HN.out.2.1, List.drop_length, List.append_nil] at he; exact he
          refine ⟨_, _, rfl, hK, Own.n hO (by have := HN.out; simp; omega)⟩
end Wi
end Go.Proofs.YtdaindihobfokaaGreatDoor
