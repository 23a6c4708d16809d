/-
  TrY: the map of a tree, as a list; a tree as a list.
-/
import Derived.Test.YtndghakagogmcaaTrX
import Derived.Maps.OwnSet
namespace Go.Proofs.Ytndghakagogmcaa
open Go.RowKit
open Go.Maps (Keyed has size IsMap Tidy)
set_option linter.unusedVariables false
set_option linter.unusedSimpArgs false
attribute [local go_sem] Oper.semAt_some
namespace Tree
open Mem BT
def Bx.zero : Bx := ⟨0, 0, 0, 0⟩
def hasL (L : List (Nat × Bx)) (id : Nat) : Bool := L.any fun p => p.1 == id
def lookL : List (Nat × Bx) → Nat → Bx
  | [], _ => Bx.zero
  | p :: L, id => if p.1 = id then p.2 else lookL L id
theorem hasL_iff {L : List (Nat × Bx)} {id : Nat} : hasL L id = true ↔ ∃ p ∈ L, p.1 = id := by simp [hasL, List.any_eq_true]
theorem hasL_no {L : List (Nat × Bx)} {id : Nat} : hasL L id = false ↔ ∀ p ∈ L, p.1 ≠ id := by simp [hasL, List.any_eq_false]
theorem lookL_none {L : List (Nat × Bx)} {id : Nat} (h : hasL L id = false) : lookL L id = Bx.zero := by
  induction L with
  | nil => rfl
  | cons p L ih =>
    rw [hasL_no] at h
    rw [lookL, if_neg (h p (by simp)), ih (hasL_no.2 fun q hq => h q (by simp [hq]))]
theorem lookL_mem {L : List (Nat × Bx)} {id : Nat} (h : hasL L id = true) : (id, lookL L id) ∈ L := by
  induction L with
  | nil => simp [hasL] at h
  | cons p L ih =>
    rw [lookL]
    split
    · rename_i he; subst he; simp
    · rename_i he
      refine List.mem_cons_of_mem _ (ih ?_)
      rw [hasL_iff] at h ⊢
      obtain ⟨q, hq, hqe⟩ := h
      rcases List.mem_cons.1 hq with rfl | hq
      · exact absurd hqe he
      · exact ⟨q, hq, hqe⟩
theorem hasL_put (id : Nat) (bx : Bx) (L : List (Nat × Bx)) (i : Nat) : hasL (putL id bx L) i = (decide (i = id) || hasL L i) := by
  rw [Bool.eq_iff_iff, Bool.or_eq_true, hasL_iff, hasL_iff, decide_eq_true_eq]
  constructor
  · rintro ⟨p, hp, rfl⟩
    rcases (putL_mem id bx L p).1 hp with rfl | hp
    · exact .inl rfl
    · exact .inr ⟨p, hp, rfl⟩
  · rintro (rfl | ⟨p, hp, rfl⟩)
    · exact ⟨_, (putL_mem i bx L _).2 (.inl rfl), rfl⟩
    · exact ⟨p, (putL_mem id bx L p).2 (.inr hp), rfl⟩
theorem lookL_put {id : Nat} {bx : Bx} : ∀ {L : List (Nat × Bx)}, hasL L id = false → ∀ i, lookL (putL id bx L) i = if i = id then bx else lookL L i
  | [], _, i => by
    simp only [putL, lookL]
    by_cases he : i = id
    · rw [if_pos he.symm, if_pos he]
    · rw [if_neg (Ne.symm he), if_neg he]
  | p :: L, h, i => by
    have h1 := hasL_no.1 h
    have h2 := h1 p (by simp)
    have h3 : hasL L id = false := hasL_no.2 fun q hq => h1 q (by simp [hq])
    simp only [putL]
    split
    · simp only [lookL]
      by_cases he : i = id
      · rw [if_pos he.symm, if_pos he]
      · rw [if_neg (Ne.symm he), if_neg he]
    · simp only [lookL, lookL_put h3 i]
      split
      · rename_i he; rw [if_neg (by omega)]
      · rfl
theorem hasL_del (id : Nat) (L : List (Nat × Bx)) (i : Nat) : hasL (delL id L) i = (decide (i ≠ id) && hasL L i) := by
  rw [Bool.eq_iff_iff, Bool.and_eq_true, hasL_iff, hasL_iff, decide_eq_true_eq]
  unfold delL
  simp only [List.mem_filter, bne_iff_ne, ne_eq]
  constructor
  · rintro ⟨p, ⟨hp, hn⟩, rfl⟩; exact ⟨hn, p, hp, rfl⟩
  · rintro ⟨hn, p, hp, rfl⟩; exact ⟨p, ⟨hp, hn⟩, rfl⟩
theorem lookL_del {id : Nat} : ∀ {L : List (Nat × Bx)} {i : Nat}, i ≠ id → lookL (delL id L) i = lookL L i
  | [], i, _ => rfl
  | p :: L, i, h => by
    have ih := lookL_del (L := L) h
    unfold delL at ih ⊢
    rw [List.filter_cons]
    split
    · rw [lookL, lookL, ih]
    · rename_i hp
      simp only [bne_iff_ne, ne_eq, Decidable.not_not] at hp
      rw [ih, lookL, if_neg (by omega)]
theorem delL_length {id : Nat} : ∀ {L : List (Nat × Bx)}, Rising L → hasL L id = true → (delL id L).length + 1 = L.length
  | [], _, h => by simp [hasL] at h
  | p :: L, hr, h => by
    have hr' := List.pairwise_cons.1 hr
    by_cases hp : p.1 = id
    · have hno : delL id L = L := delL_none id fun q hq => by have := hr'.1 q hq; omega
      have : delL id (p :: L) = L := by
        unfold delL at hno ⊢
        rw [List.filter_cons, if_neg (by simp [hp]), hno]
      rw [this]; rfl
    · have hh : hasL L id = true := by
        rw [hasL_iff] at h ⊢
        obtain ⟨q, hq, hqe⟩ := h
        rcases List.mem_cons.1 hq with rfl | hq
        · exact absurd hqe hp
        · exact ⟨q, hq, hqe⟩
      have ih := delL_length hr'.2 hh
      have : delL id (p :: L) = p :: delL id L := by unfold delL; rw [List.filter_cons, if_pos (by simp [hp])]
      rw [this]; simp [ih]
/-- how a box reads -/
def boxD (b : Bx) : DataW Unit := .agg [.lit (.int .i32 b.x0), .lit (.int .i32 b.y0), .lit (.int .i32 b.x1), .lit (.int .i32 b.y1)]
theorem boxD_inj {a b : Bx} (h : boxD a = boxD b) : a = b := by
  obtain ⟨a0, a1, a2, a3⟩ := a
  obtain ⟨b0, b1, b2, b3⟩ := b
  simp [boxD] at h
  obtain ⟨rfl, rfl, rfl, rfl⟩ := h
  rfl
def boxR : Value → Option (DataW Unit × List MemPlace)
  | .agg ⟨[.int .i32 a, .int .i32 b, .int .i32 c, .int .i32 d]⟩ => some (boxD ⟨a, b, c, d⟩, [])
  | _ => none
theorem boxR_mk (b : Bx) : boxR b.val = some (boxD b, []) := rfl
theorem boxR_inv {v : Value} {b : Bx} {ps : List MemPlace} (h : boxR v = some (boxD b, ps)) : v = b.val := by
  unfold boxR at h
  split at h
  · simp only [Option.some.injEq, Prod.mk.injEq] at h
    have := boxD_inj h.1
    subst this
    rfl
  · cases h
def kl (id : Nat) : Lit := .int .u32 (id : Int)
theorem kl_ne {a b : Nat} (h : a ≠ b) : kl a ≠ kl b := by
  intro e; simp [kl] at e; omega
theorem mlaw : Keyed Try.prog 32 := Go.Maps.int_keyed Try.underlying32
theorem mzero (W : World) : (zeroValue 47).run Try.prog W = .ok (Bx.val Bx.zero) W := by kernel_rfl
theorem mkey {id : Nat} (h : id < 4294967296) : keyOf Try.prog 32 (.int .u32 (id : Int)) = some (kl id) := Go.Maps.keyOf_int_mk Try.underlying32 (by
  have h1 : IntKind.u32.min = 0 := rfl
  have h2 : IntKind.u32.max = 4294967295 := rfl
  simp [Lit.wf]; omega)
/-- the block r is a map that holds the list L -/
def MapL (w : World) (r : Nat) (L : List (Nat × Bx)) : Prop :=
  ∃ D, w.ownsMap Try.prog 32 boxR r L.length D ∧ size D = L.length ∧ ∀ id, id < 4294967296 → has D (kl id) = hasL L id ∧ (hasL L id = true → ∀ z, D.atKey (kl id) z = boxD (lookL L id))
theorem MapL.look {w : World} {r : Nat} {L : List (Nat × Bx)} (h : MapL w r L) {id : Nat} (hid : id < 4294967296) :
    (Instr.lookup 78 (.map (some r)) (.int .u32 (id : Int)) true).run Try.prog w = .ok (.tuple #[(lookL L id).val, .bool (hasL L id)]) w := by
  obtain ⟨D, hown, hs, hD⟩ := h
  obtain ⟨v, ps, hrun, hv⟩ := hown.look_ok mlaw Try.underlying78 (mzero w) (boxR_mk Bx.zero) (mkey hid)
  rw [hrun, (hD id hid).1]
  cases hh : hasL L id with
  | true => rw [(hD id hid).2 hh] at hv; rw [boxR_inv hv]
  | false =>
    rw [Go.Maps.atKey_of_not_has ((hD id hid).1.trans hh)] at hv
    rw [boxR_inv hv, lookL_none hh]
theorem MapL.len {w : World} {r : Nat} {L : List (Nat × Bx)} (h : MapL w r L) (ty : TypeId) :
    (Builtin.len_ #[78] ty #[.map (some r)]).run Try.prog w = .ok (.int .i64 (L.length : Int)) w := by
  obtain ⟨D, hown, hs, hD⟩ := h
  rw [hown.len Try.underlying78 ty, hs]
theorem MapL.lt {w : World} {r : Nat} {L : List (Nat × Bx)} (h : MapL w r L) : r < w.heap.size := h.choose_spec.1.lt
theorem MapL.keeps {S : Nat → Prop} {w w' : World} {r : Nat} {L : List (Nat × Bx)} (h : MapL w r L) (k : Keeps S w w') (hn : ¬ S r) : MapL w' r L := by
  obtain ⟨D, hown, hs, hD⟩ := h
  have hlt := hown.lt
  obtain ⟨es, clock, hb, F, hsz, he⟩ := hown
  exact ⟨D, ⟨es, clock, (k.block r hlt hn).trans hb, F, hsz, he⟩, hs, hD⟩
theorem MapL.ne {w : World} {r b : Nat} {L : List (Nat × Bx)} {t : TypeId} {cs : List Value} (h : MapL w r L) (hb : Blk w b t cs) : b ≠ r := by
  rintro rfl
  obtain ⟨D, ⟨es, clock, hm, _⟩, _⟩ := h
  unfold Blk at hb
  rw [hb] at hm
  cases hm
theorem MapL.put {w : World} {r : Nat} {L : List (Nat × Bx)} (h : MapL w r L) {id : Nat} (hid : id < 4294967296) (bx : Bx) (hno : hasL L id = false) (hlen : L.length ≤ 1000000) :
    ∃ w', (Instr.mapUpdate 78 (.map (some r)) (.int .u32 (id : Int)) bx.val).run Try.prog w = .ok () w' ∧ MapL w' r (putL id bx L) ∧ Keeps (fun k => k = r) w w' := by
  obtain ⟨D, hown, hs, hD⟩ := h
  obtain ⟨w', hrun, hown', hturn⟩ := hown.store mlaw Try.underlying78 (by unfold maxLen; omega) (mkey hid) (boxR_mk bx)
  have hhas : has D (kl id) = false := (hD id hid).1.trans hno
  refine ⟨w', hrun, ⟨_, hown'.mono (by rw [putL_length]; exact Nat.le_refl _), ?_, ?_⟩, (Keeps.of_grown hturn.grown).mono (fun k _ e => by injection e)⟩
  · rw [Go.Maps.size_put (hown.tidy mlaw), hhas, putL_length, hs]; simp
  · intro i hi
    rw [hasL_put, lookL_put hno]
    by_cases he : i = id
    · subst he
      simp only [decide_true, Bool.true_or, if_true]
      have hkl : Go.WideAt.IsKeyLit (kl i) := trivial
      exact ⟨Go.Maps.has_put_same hown.isMap hkl _, fun _ z => Go.Maps.atKey_put_same hown.isMap hkl _ _⟩
    · simp only [he, decide_false, Bool.false_or, if_false]
      rw [Go.Maps.has_put_other (kl_ne he)]
      refine ⟨(hD i hi).1, fun hh z => ?_⟩
      rw [Go.Maps.atKey_put_other (kl_ne he)]
      exact (hD i hi).2 hh z
theorem MapL.del {w : World} {r : Nat} {L : List (Nat × Bx)} (h : MapL w r L) {id : Nat} (hid : id < 4294967296) (hr : Rising L) (hyes : hasL L id = true) (ty : TypeId) :
    ∃ w', (Builtin.delete_ #[78, 32] ty #[.map (some r), .int .u32 (id : Int)]).run Try.prog w = .ok (.tuple #[]) w' ∧ MapL w' r (delL id L) ∧ Keeps (fun k => k = r) w w' := by
  obtain ⟨D, hown, hs, hD⟩ := h
  obtain ⟨w', hrun, hown', hturn⟩ := hown.drop mlaw Try.underlying78 (mkey hid) ty
  have hhas : has D (kl id) = true := (hD id hid).1.trans hyes
  have hsz : size (D.del (kl id)) = (delL id L).length := by
    have h1 := Go.Maps.size_del (k := kl id) (hown.tidy mlaw)
    rw [hhas] at h1
    have h2 := delL_length hr hyes
    simp only [if_true] at h1
    omega
  refine ⟨w', hrun, ⟨_, ?_, hsz, ?_⟩, (Keeps.of_grown hturn.grown).mono (fun k _ e => by injection e)⟩
  · obtain ⟨es, clock, hb, F, h1, h2⟩ := hown'
    refine ⟨es, clock, hb, F, ?_, h2⟩
    rw [← hsz, h2]
    simp [size, length_sorted]
  · intro i hi
    rw [hasL_del]
    by_cases he : i = id
    · subst he
      simp only [ne_eq, not_true, decide_false, Bool.false_and, Bool.false_eq_true, false_implies, and_true]
      exact Go.Maps.has_del_same
    · simp only [ne_eq, he, not_false_eq_true, decide_true, Bool.true_and]
      rw [Go.Maps.has_del_other (kl_ne he)]
      refine ⟨(hD i hi).1, fun hh z => ?_⟩
      rw [Go.Maps.atKey_del_other (kl_ne he), lookL_del he]
      exact (hD i hi).2 hh z
end Tree
end Go.Proofs.Ytndghakagogmcaa
