/-
MbH: the document's events and packets alike, walked.
-/
import Derived.Test.YtdaindihobfokaaGreatDoorZanMbG
namespace Go.Proofs.YtdaindihobfokaaGreatDoor
open Go.RowKit
set_option linter.unusedVariables false
set_option linter.unusedSimpArgs false
attribute [local go_sem] Oper.semAt_some Mb.run_store_float
namespace Mb
open Mem Wi
/-- the text of some bytes -/
def txt (L : List Nat) : ByteArray := strOfNums (L.map fun (x : Nat) => (x : Int))
theorem txt_inj : ∀ {L M : List Nat}, (∀ x ∈ L, x < 256) → (∀ x ∈ M, x < 256) → txt L = txt M → L = M := by
  have key : ∀ {L M : List Nat}, (∀ x ∈ L, x < 256) → (∀ x ∈ M, x < 256) → (L.map fun x => UInt8.ofNat x) = (M.map fun x => UInt8.ofNat x) → L = M := by
    intro L
    induction L with
    | nil => intro M _ _ h; cases M with
      | nil => rfl
      | cons y M => simp at h
    | cons x L ih =>
      intro M hL hM h
      cases M with
      | nil => simp at h
      | cons y M =>
        simp only [List.map_cons, List.cons.injEq] at h
        have hx := hL x (by simp)
        have hy := hM y (by simp)
        have : x = y := by
          have h1 := congrArg UInt8.toNat h.1
          simp only [UInt8.toNat_ofNat'] at h1
          omega
        rw [this, ih (fun z hz => hL z (by simp [hz])) (fun z hz => hM z (by simp [hz])) h.2]
  intro L M hL hM h
  refine key hL hM ?_
  have h1 : (txt L).data.toList = (txt M).data.toList := by rw [h]
  have e : ∀ K : List Nat, (txt K).data.toList = K.map fun x => UInt8.ofNat x := fun K => by simp [txt, strOfNums]
  rwa [e, e] at h1
theorem beq_txt (s t : ByteArray) : (s.toList == t.toList) = decide (s = t) := by
  rw [ByteArray.toList_eq, ByteArray.toList_eq, Bool.eq_iff_iff, beq_iff_eq, decide_eq_true_iff]
  exact ⟨fun h => by cases s; cases t; congr 1; exact Array.toList_inj.1 h, fun h => by rw [h]⟩
theorem le_256 : ∀ n v, ∀ x ∈ le n v, x < 256
  | 0, v, x, h => by simp [le] at h
  | n + 1, v, x, h => by
    simp only [le, List.mem_cons] at h
    rcases h with rfl | h
    · omega
    · exact le_256 n _ x h
theorem eq_txt (x y : Nat) (hx : x < 18446744073709551616) (hy : y < 18446744073709551616) : decide (txt (le 8 x) = txt (le 8 y)) = decide (x = y) := by
  rw [Bool.eq_iff_iff, decide_eq_true_iff, decide_eq_true_iff]
  exact ⟨fun h => le_inj 8 x y (by omega) (by omega) (txt_inj (le_256 8 x) (le_256 8 y) h), fun h => by rw [h]⟩
theorem conv_own {w w' : World} {B : Nat} {a : Option Addr} {c : Nat} {v : Nat} (h : Wi.Own w B a c (le 8 v)) (k : Keeps (fun _ => False) w w') : (convert 65 9 (.slice a (8 : Nat) c)).run Tryz.prog w' = .ok (.string (txt (le 8 v))) w' := by
  have hb := h.bys.keeps k (far_none _)
  obtain ⟨b, off, rfl, -⟩ := hb 0 (v % 256) rfl
  exact run_convert_bytes_arg w' 65 5 Tryz.underlying65 Tryz.underlying5 b off 8 c ((le 8 v).map fun (x : Nat) => (x : Int)) (by simp [le_len]) (fun i hi => by
    obtain ⟨x, hx⟩ : ∃ x, (le 8 v)[i]? = some x := ⟨_, List.getElem?_eq_getElem (by rw [le_len]; exact hi)⟩
    obtain ⟨b', off', e, hc⟩ := hb i x hx
    cases e
    rw [hc]
    simp [List.getD, hx]) 9 Tryz.underlying9
theorem eq_point (x y x' y' : Int) (W : World) : (binOp .eql 30 (.agg #[.int .i32 x, .int .i32 y]) (.agg #[.int .i32 x', .int .i32 y'])).run Tryz.prog W = .ok (.bool (decide (x = x') && decide (y = y'))) W := by
  go_simp
  repeat' (split <;> simp_all)
def sameE (p q : Pk) : Bool := decide (p.kd = q.kd) && (decide (p.ob = q.ob) && (decide (p.fe = q.fe) && (decide (p.nu = q.nu) && ((decide (p.x = q.x) && decide (p.y = q.y)) && (decide (p.ck = q.ck) && decide (canon p.sp = canon q.sp))))))
set_option maxHeartbeats 4000000 in
set_option maxRecDepth 100000 in
theorem event_t (p q : Pk) (hp : p.sp < 18446744073709551616) (hq : q.sp < 18446744073709551616) (w : World) : Calls Tryz.prog 18 #[.agg #[.int .u8 p.kd, .int .u32 p.ob, .int .u32 p.fe, .int .u32 p.nu, .int .i32 p.x, .int .i32 p.y, .int .u32 p.ck, .float .f64 p.sp], .agg #[.int .u8 q.kd, .int .u32 q.ob, .int .u32 q.fe, .int .u32 q.nu, .int .i32 q.x, .int .i32 q.y, .int .u32 q.ck, .float .f64 q.sp]] w fun e w' => e = .returned (.bool (sameE p q)) ∧ Keeps (fun _ => False) w w' := by
  have hx := ext_bits
  have heq := eq_point p.x p.y q.x q.y
  have HP := Lib.hid (float_t p.sp hp)
  have HQ := Lib.hid (float_t q.sp hq)
  obtain ⟨s1, hs1⟩ : ∃ s, s = txt (le 8 (canon p.sp)) := ⟨_, rfl⟩
  obtain ⟨s2, hs2⟩ : ∃ s, s = txt (le 8 (canon q.sp)) := ⟨_, rfl⟩
  have HS := Lib.hid (And.intro hs1 hs2)
  have HE := Lib.hid (eq_txt (canon p.sp) (canon q.sp) (canon_lt hp) (canon_lt hq))
  rw [← hs1, ← hs2] at HE
  have K0 := Lib.hid (show Keeps (fun _ => False) w ((w.alloc (.cells #[.int .u8 p.kd, .int .u32 p.ob, .int .u32 p.fe, .int .u32 p.nu, .int .i32 p.x, .int .i32 p.y, .int .u32 p.ck, .float .f64 p.sp] 33)).alloc (.cells #[.int .u8 q.kd, .int .u32 q.ob, .int .u32 q.fe, .int .u32 q.nu, .int .i32 q.x, .int .i32 q.y, .int .u32 q.ck, .float .f64 q.sp] 33)) from by (repeat (first | exact Keeps.refl _ _ | refine Keeps.alloc ?_ _ | refine Keeps.drew ?_)))
  have h1 : Blk ((w.alloc (.cells #[.int .u8 p.kd, .int .u32 p.ob, .int .u32 p.fe, .int .u32 p.nu, .int .i32 p.x, .int .i32 p.y, .int .u32 p.ck, .float .f64 p.sp] 33)).alloc (.cells #[.int .u8 q.kd, .int .u32 q.ob, .int .u32 q.fe, .int .u32 q.nu, .int .i32 q.x, .int .i32 q.y, .int .u32 q.ck, .float .f64 q.sp] 33)) w.heap.size 33 [.int .u8 p.kd, .int .u32 p.ob, .int .u32 p.fe, .int .u32 p.nu, .int .i32 p.x, .int .i32 p.y, .int .u32 p.ck, .float .f64 p.sp] := (Blk.new w 33 [.int .u8 p.kd, .int .u32 p.ob, .int .u32 p.fe, .int .u32 p.nu, .int .i32 p.x, .int .i32 p.y, .int .u32 p.ck, .float .f64 p.sp]).alloc _
  have h2 : Blk ((w.alloc (.cells #[.int .u8 p.kd, .int .u32 p.ob, .int .u32 p.fe, .int .u32 p.nu, .int .i32 p.x, .int .i32 p.y, .int .u32 p.ck, .float .f64 p.sp] 33)).alloc (.cells #[.int .u8 q.kd, .int .u32 q.ob, .int .u32 q.fe, .int .u32 q.nu, .int .i32 q.x, .int .i32 q.y, .int .u32 q.ck, .float .f64 q.sp] 33)) (w.heap.size + 1) 33 [.int .u8 q.kd, .int .u32 q.ob, .int .u32 q.fe, .int .u32 q.nu, .int .i32 q.x, .int .i32 q.y, .int .u32 q.ck, .float .f64 q.sp] := by have := Blk.new (w.alloc (.cells #[.int .u8 p.kd, .int .u32 p.ob, .int .u32 p.fe, .int .u32 p.nu, .int .i32 p.x, .int .i32 p.y, .int .u32 p.ck, .float .f64 p.sp] 33)) 33 [.int .u8 q.kd, .int .u32 q.ob, .int .u32 q.fe, .int .u32 q.nu, .int .i32 q.x, .int .i32 q.y, .int .u32 q.ck, .float .f64 q.sp]; rwa [World.size_alloc] at this
  have HB := Lib.hid (And.intro h1 h2)
  clear h1 h2 hs1 hs2 hp hq
  go_enter Tryz.func18, Tryz.ntmps18
  go_wp2_with (first
    | (go_at_call 27; (with_reducible refine (HP.out _).mono ?_); rintro e w1 ⟨a1, c1, rfl, hk, ho⟩; have K1 := Lib.hid (And.intro hk ho); have cq := (HB.out.2.keeps hk (fun h => h)).cell; clear hk ho)
    | (go_at_call 27; (with_reducible refine (HQ.out _).mono ?_); rintro e w2 ⟨a2, c2, rfl, hk, ho⟩; have K2 := Lib.hid (And.intro hk ho); have cp2 := (HB.out.1.keeps (K1.out.1.trans hk) (fun h => h)).cell; have cq2 := (HB.out.2.keeps (K1.out.1.trans hk) (fun h => h)).cell; have v1 := conv_own K1.out.2 hk; have v2 := conv_own ho (Keeps.refl _ _); rw [← HS.out.1] at v1; rw [← HS.out.2] at v2; clear hk ho cq))
  all_goals
    go_ret
    refine ⟨?_, K0.out.trans (K1.out.1.trans K2.out.1)⟩
    first
      | (rw [show (s1.toList == s2.toList) = decide (canon p.sp = canon q.sp) from (beq_txt s1 s2).trans HE.out]; simp_all [sameE])
      | simp_all [sameE]
end Mb
end Go.Proofs.YtdaindihobfokaaGreatDoor
