/-
GsK: Del: the round.
GsL: Del: the round.
GsN: Del.
-/
import Derived.Test.YtdbpfbokfmpgcaaGreatZanGsHGsIGsJ
set_option linter.unusedVariables false
set_option linter.unusedSimpArgs false
set_option linter.ambiguousOpen false
set_option maxHeartbeats 16000000
set_option maxRecDepth 100000
attribute [local go_sem] Go.Oper.semAt_some
namespace Go.Proofs.YtdbpfbokfmpgcaaGreat
theorem ZAE {p : Prop} (h : p := by (repeat (first | (refine blk_top ?_; simp only [World.size_alloc, World.size_drew]; done) | refine Blk.drew ?_ | refine Blk.alloc ?_ _))) : p := h
open Go.RowKit Go.Shelf
namespace Gs
open Mem Gr
open So (vals)
section
variable {α : Type} [DecidableEq α] {kv : α → Value} {w : World} {r : Nat} {P : Program} {kt : TypeId}
omit [DecidableEq α] in
theorem split_unique {k : α} {u u' : Value} : ∀ {K1 L1 K2 L2 : List (α × Value)}, K1 ++ (k, u') :: K2 = L1 ++ (k, u) :: L2 → (∀ p ∈ K1, p.1 ≠ k) → (∀ p ∈ L1, p.1 ≠ k) → K1 = L1 ∧ K2 = L2
 | [], [], _, _, he, _, _ => by simp at he; exact ⟨rfl, he.2⟩
 | [], p :: L1, _, _, he, _, a2 => by simp at he; exact absurd he.1.symm (fun e => a2 p ZA7 (by rw [e]))
 | q :: K1, [], _, _, he, a1, _ => by simp at he; exact absurd he.1 (fun e => a1 q ZA7 (by rw [e]))
 | q :: K1, p :: L1, _, _, he, a1, a2 => by
  simp at he
  obtain ⟨rfl, he⟩ := he
  obtain ⟨e1, e2⟩ := split_unique he (fun p hp => a1 p (by simp [hp])) (fun p hp => a2 p (by simp [hp]))
  exact ⟨by rw [e1], e2⟩
theorem MapL.reset (K : KeyT P kt kv) {mt et : TypeId} (hu : P.underlying mt = some (.map kt et)) {L1 L2 : List (α × Value)} {k : α} {u : Value} (h : MapL kv w r (L1 ++ (k, u) :: L2)) (v : Value) :
 ∃ w', (Instr.mapUpdate mt (.map (some r)) (kv k) v).run P w = .ok () w' ∧ MapL kv w' r (L1 ++ (k, v) :: L2) ∧ Keeps (fun x => x = r) w w' := by
 obtain ⟨E, c, h1, he⟩ := h
 have hh : ∃ e ∈ E, e.1 = k := by
  have : (k, u) ∈ kvs E := by rw [he]; simp
  obtain ⟨e, hm, e1⟩ := List.mem_map.1 this
  exact ⟨e, hm, (Prod.mk.inj e1).1⟩
 obtain ⟨E1, u', b, E2, rfl, n1, n2⟩ := split_at hh h1.keys
 have hnd := h1.keys
 have hsp : kvs E1 = L1 ∧ kvs E2 = L2 := by
  have e1 : kvs (E1 ++ (k, u', b) :: E2) = kvs E1 ++ (k, u') :: kvs E2 := by simp [kvs]
  rw [e1] at he
  have a1 : ∀ p ∈ kvs E1, p.1 ≠ k := fun p hp => by obtain ⟨e, hm, rfl⟩ := List.mem_map.1 hp; exact n1 e hm
  have a2 : ∀ p ∈ L1, p.1 ≠ k := by
   intro p hp e2
   have hn : ((L1 ++ (k, u) :: L2).map (·.1)).Nodup := by rw [← he, ← e1, kvs_keys]; exact hnd
   rw [List.map_append, List.map_cons, List.nodup_append] at hn
   exact hn.2.2 p.1 (List.mem_map.2 ⟨p, hp, rfl⟩) k ZA7 e2
  exact split_unique he a1 a2
 have hb : ∀ e ∈ E1 ++ (k, v, b) :: E2, e.2.2 < c := fun e he => by
  rcases List.mem_append.1 he with he | he
  ·exact h1.born e ZAz
  ·rcases List.mem_cons.1 he with rfl | he
   ·exact h1.born (k, u', b) ZA7
   ·exact h1.born e ZAz
 refine ⟨Gr.setM w r ((E1 ++ (k, v, b) :: E2).map (toE kv)).toArray c, ?_, ⟨_, c, set_mapE h1 hb (by have := h1.stamps; simpa using this) (by have := h1.keys; simpa using this), by rw [← hsp.1, ← hsp.2]; simp [kvs]⟩, Gr.setM_keeps _ _ _ _⟩
 have hi : (((E1 ++ (k, u', b) :: E2).map (toE kv)).toArray)[E1.length]? = some (toE kv (k, u', b)) := by simp
 have hm : ((E1 ++ (k, u', b) :: E2).map (toE kv)).toArray.modify E1.length (fun e => { e with key := kv k, val := v }) = ((E1 ++ (k, v, b) :: E2).map (toE kv)).toArray := by
  exact Zs
 simp only [Instr.mapUpdate, Sem.run_bind, run_underlying hu, MapKept.run_getObj_map h1.heap, Result.andThen, K.chk, K.find, findA_at n1, Nat.zero_add, hi, Option.map_some, Option.getD_some, toE, K.stay]
 rw [MapKept.run_setObj_map _ h1.heap, hm]
 rfl
end
def delC (id : Nat) (C : List ((Int × Int) × List Nat)) (c : Int × Int) : List ((Int × Int) × List Nat) :=
 match C with
 | [] => []
 | e :: L => if e.1 = c then (if (e.2.filter fun x => decide (x ≠ id)) = [] then L else (c, e.2.filter fun x => decide (x ≠ id)) :: L) else e :: delC id L c
theorem delC_at {id : Nat} {c : Int × Int} {V : List Nat} {L1 L2 : List ((Int × Int) × List Nat)} (h : ∀ e ∈ L1, e.1 ≠ c) :
 delC id (L1 ++ (c, V) :: L2) c = L1 ++ (if (V.filter fun x => decide (x ≠ id)) = [] then L2 else (c, V.filter fun x => decide (x ≠ id)) :: L2) := by
 induction L1 with
 | nil => simp [delC]
 | cons e L ih => rw [List.cons_append, delC, if_neg (h e ZA7), ih (fun x hx => h x ZAt)]; rfl
theorem delC_other {id : Nat} {c x : Int × Int} (hne : x ≠ c) : ∀ {C : List ((Int × Int) × List Nat)}, (∃ e ∈ C, e.1 = x) → ∃ e ∈ delC id C c, e.1 = x
 | [], h => by obtain ⟨e, he, _⟩ := h; cases he
 | y :: L, h => by
  rw [delC]
  obtain ⟨e, he, hex⟩ := h
  split
  ·rename_i hy
   have hel : e ∈ L := by
    rcases List.mem_cons.1 he with rfl | he
    ·exact absurd (hex.symm.trans hy) hne
    ·exact he
   split
   ·exact ⟨e, hel, hex⟩
   ·exact ⟨e, List.mem_cons_of_mem _ hel, hex⟩
  ·rcases List.mem_cons.1 he with rfl | he
   ·exact ⟨e, ZA7, hex⟩
   ·obtain ⟨z, hz, hzx⟩ := delC_other hne ⟨e, he, hex⟩
    exact ⟨z, List.mem_cons_of_mem _ hz, hzx⟩
theorem delC_others {id : Nat} {x : Int × Int} : ∀ {pre : List Cl} {C : List ((Int × Int) × List Nat)}, x ∉ pre → (∃ e ∈ C, e.1 = x) → ∃ e ∈ pre.foldl (delC id) C, e.1 = x
 | [], _, _, h => h
 | c :: pre, C, hx, h => delC_others (pre := pre) (fun h => hx (by simp [h])) (delC_other (fun e => hx (by simp [e])) h)
variable {w w1 : World} {r : Nat} {M : List CE}
theorem CellsM.cut (h : CellsM w r M) {M1 M2 : List CE} {e : CE} (hM : M = M1 ++ e :: M2) (h1 : ∀ x ∈ M1, x.c ≠ e.c) (h2 : ∀ x ∈ M2, x.c ≠ e.c) {V : List Nat} (hk : Keeps (fun k => k = e.g) w w1) (ho : w1.ownsRow 0 35 1 (.slice (some ⟨e.g, 0, none⟩) V.length e.cap) V.length (vals V)) :
 (∃ w2, (Builtin.delete_ #[81, 181] 0 #[.map (some r), kcl e.c]).run Tryz.prog w1 = .ok (.tuple #[]) w2 ∧ Keeps (fun k => k = r) w1 w2 ∧ CellsM w2 r (M1 ++ M2)) ∧
 (∃ w2, (Instr.mapUpdate 81 (.map (some r)) (kcl e.c) (.slice (some ⟨e.g, 0, none⟩) V.length e.cap)).run Tryz.prog w1 = .ok () w2 ∧ Keeps (fun k => k = r) w1 w2 ∧ CellsM w2 r (M1 ++ ⟨e.c, V, e.g, e.cap⟩ :: M2)) := by
 have heM : e ∈ M := by rw [hM]; simp
 have hgr : e.g ≠ r := h.own_ne ⟨e, heM, rfl⟩
 have hm1 : MapL kcl w1 r (kvE M) := h.map.keeps hk (fun e => hgr e.symm)
 have hap := h.apart
 rw [hM, List.map_append, List.map_cons, List.nodup_append] at hap
 have hng : ∀ x ∈ M1 ++ M2, x.g ≠ e.g := fun x hx => by
  rcases List.mem_append.1 hx with hx | hx
  ·exact hap.2.2 x.g (List.mem_map.2 ⟨x, hx, rfl⟩) e.g ZA7
  ·intro e1
   exact (List.nodup_cons.1 hap.2.1).1 (by rw [← e1]; exact List.mem_map.2 ⟨x, hx, rfl⟩)
 have hin : ∀ x ∈ M1 ++ M2, x ∈ M := fun x hx => by
  rw [hM]; rcases List.mem_append.1 hx with hx | hx <;> simp [hx]
 have old : ∀ x ∈ M1 ++ M2, w1.ownsRow 0 35 1 x.sl x.ids.length (vals x.ids) := fun x hx =>
  owns_keeps (h.own x (hin x hx)) hk (fun b hb e1 => hng x hx (by simp [CE.sl, Value.ownBlock] at hb; omega))
 have old2 : ∀ {w2 : World}, Keeps (fun k => k = r) w1 w2 → ∀ x ∈ M1 ++ M2, w2.ownsRow 0 35 1 x.sl x.ids.length (vals x.ids) := fun hk2 x hx =>
  owns_keeps (old x hx) hk2 (fun b hb e1 => h.own_ne ⟨x, hin x hx, rfl⟩ (by simp [CE.sl, Value.ownBlock] at hb; omega))
 have hnd : ((M1 ++ M2).map (·.g)).Nodup := by
  have := h.apart
  rw [hM] at this
  exact this.sublist ((List.Sublist.append (List.Sublist.refl _) (List.sublist_cons_self _ _)).map _)
 constructor
 ·obtain ⟨w2, hrun, hm2, hk2⟩ := hm1.delete keycl (kty := 181) Tryz.underlying81 e.c 0
  refine ⟨w2, hrun, hk2, ⟨?_, old2 hk2, hnd⟩⟩
  have : delK e.c (kvE M) = kvE (M1 ++ M2) := by
   rw [hM]
   unfold delK kvE
   rw [List.map_append, List.map_append, List.filter_append, List.map_cons, List.filter_cons, if_neg ZA7]
   rw [List.filter_eq_self.2, List.filter_eq_self.2]
   ·intro p hp; obtain ⟨x, hx, rfl⟩ := List.mem_map.1 hp; simpa using h2 x hx
   ·intro p hp; obtain ⟨x, hx, rfl⟩ := List.mem_map.1 hp; simpa using h1 x hx
  rw [← this]; exact hm2
 ·have hkv : kvE M = kvE M1 ++ (e.c, e.sl) :: kvE M2 := by rw [hM]; simp [kvE]
  rw [hkv] at hm1
  obtain ⟨w2, hrun, hm2, hk2⟩ := MapL.reset keycl Tryz.underlying81 hm1 (.slice (some ⟨e.g, 0, none⟩) V.length e.cap)
  refine ⟨w2, hrun, hk2, ⟨by simpa [kvE, CE.sl] using hm2, ?_, ?_⟩⟩
  ·intro x hx
   rcases List.mem_append.1 hx with hx | hx
   ·exact old2 hk2 x ZAt
   ·rcases List.mem_cons.1 hx with rfl | hx
    ·exact owns_keeps ho hk2 (fun b hb e1 => hgr (by simp [CE.sl, Value.ownBlock] at hb; omega))
    ·exact old2 hk2 x ZAt
  ·have := h.apart
   rw [hM] at this
   simpa using this
end Gs
open Go.RowKit Go.Shelf
namespace Gs
open Mem Gr
open So (vals)
theorem frames68 {P : Act → Prop} (hP : ∀ u0 u1 u2 u3 u4 u5 u6 u7 u8 u9 u10 u11 u12 u13 u14 u15 u16 u17 u18 u19 u20 u21 u22 u23 u24 u25 u26 u27 u28 u29 u30 u31 u32 u33 u34 u35 u36 u37 u38 u39 u40 u41 u42 u43 u44 u45 u46 u47 u48 u49 u50 u51 u52 u53 u54 u55 u56 u57 u58 u59 u60 u61 u62 u63 u64 u65 u66 u67 : Value, P ⟨#[u0, u1, u2, u3, u4, u5, u6, u7, u8, u9, u10, u11, u12, u13, u14, u15, u16, u17, u18, u19, u20, u21, u22, u23, u24, u25, u26, u27, u28, u29, u30, u31, u32, u33, u34, u35, u36, u37, u38, u39, u40, u41, u42, u43, u44, u45, u46, u47, u48, u49, u50, u51, u52, u53, u54, u55, u56, u57, u58, u59, u60, u61, u62, u63, u64, u65, u66, u67], []⟩) : ∀ a : Act, a.tmps.size = 68 → a.defers = [] → P a := by
 rintro ⟨⟨t⟩, d⟩ h1 h2
 simp only [List.size_toArray] at h1 h2
 subst h2
 have h := unroll t 68 h1
 have e : (List.range 68).map (fun i => t.getD i undef) = [t.getD 0 undef, t.getD 1 undef, t.getD 2 undef, t.getD 3 undef, t.getD 4 undef, t.getD 5 undef, t.getD 6 undef, t.getD 7 undef, t.getD 8 undef, t.getD 9 undef, t.getD 10 undef, t.getD 11 undef, t.getD 12 undef, t.getD 13 undef, t.getD 14 undef, t.getD 15 undef, t.getD 16 undef, t.getD 17 undef, t.getD 18 undef, t.getD 19 undef, t.getD 20 undef, t.getD 21 undef, t.getD 22 undef, t.getD 23 undef, t.getD 24 undef, t.getD 25 undef, t.getD 26 undef, t.getD 27 undef, t.getD 28 undef, t.getD 29 undef, t.getD 30 undef, t.getD 31 undef, t.getD 32 undef, t.getD 33 undef, t.getD 34 undef, t.getD 35 undef, t.getD 36 undef, t.getD 37 undef, t.getD 38 undef, t.getD 39 undef, t.getD 40 undef, t.getD 41 undef, t.getD 42 undef, t.getD 43 undef, t.getD 44 undef, t.getD 45 undef, t.getD 46 undef, t.getD 47 undef, t.getD 48 undef, t.getD 49 undef, t.getD 50 undef, t.getD 51 undef, t.getD 52 undef, t.getD 53 undef, t.getD 54 undef, t.getD 55 undef, t.getD 56 undef, t.getD 57 undef, t.getD 58 undef, t.getD 59 undef, t.getD 60 undef, t.getD 61 undef, t.getD 62 undef, t.getD 63 undef, t.getD 64 undef, t.getD 65 undef, t.getD 66 undef, t.getD 67 undef] := rfl
 exact Eq.mpr (congrArg (fun l : List Value => P ⟨⟨l⟩, []⟩) (h.trans e)) (hP (t.getD 0 undef) (t.getD 1 undef) (t.getD 2 undef) (t.getD 3 undef) (t.getD 4 undef) (t.getD 5 undef) (t.getD 6 undef) (t.getD 7 undef) (t.getD 8 undef) (t.getD 9 undef) (t.getD 10 undef) (t.getD 11 undef) (t.getD 12 undef) (t.getD 13 undef) (t.getD 14 undef) (t.getD 15 undef) (t.getD 16 undef) (t.getD 17 undef) (t.getD 18 undef) (t.getD 19 undef) (t.getD 20 undef) (t.getD 21 undef) (t.getD 22 undef) (t.getD 23 undef) (t.getD 24 undef) (t.getD 25 undef) (t.getD 26 undef) (t.getD 27 undef) (t.getD 28 undef) (t.getD 29 undef) (t.getD 30 undef) (t.getD 31 undef) (t.getD 32 undef) (t.getD 33 undef) (t.getD 34 undef) (t.getD 35 undef) (t.getD 36 undef) (t.getD 37 undef) (t.getD 38 undef) (t.getD 39 undef) (t.getD 40 undef) (t.getD 41 undef) (t.getD 42 undef) (t.getD 43 undef) (t.getD 44 undef) (t.getD 45 undef) (t.getD 46 undef) (t.getD 47 undef) (t.getD 48 undef) (t.getD 49 undef) (t.getD 50 undef) (t.getD 51 undef) (t.getD 52 undef) (t.getD 53 undef) (t.getD 54 undef) (t.getD 55 undef) (t.getD 56 undef) (t.getD 57 undef) (t.getD 58 undef) (t.getD 59 undef) (t.getD 60 undef) (t.getD 61 undef) (t.getD 62 undef) (t.getD 63 undef) (t.getD 64 undef) (t.getD 65 undef) (t.getD 66 undef) (t.getD 67 undef))
noncomputable def delBody : Code := (rbods (Tryz.f119.body.getD .skip)).getD 0 .skip
def DelI (W0 : World) (r2 : Nat) (M0 : List CE) (id : Nat) (pre : List Cl) (S : Nat → Prop) (W : World) : Prop :=
 ∃ M, CellsM W r2 M ∧ viewE M = pre.foldl (delC id) (viewE M0) ∧ (∀ k, Own M k → Own M0 k) ∧ Keeps (fun k => k = r2 ∨ Own M0 k) W0 W ∧ ∀ k, S k ↔ k = r2 ∨ Own M0 k
theorem deli_stab (W0 : World) (r2 : Nat) (M0 : List CE) (id : Nat) : Stab W0.heap.size (DelI W0 r2 M0 id) := by
 intro pre S T W W' ⟨M, h1, h2, h3, h4, h6⟩ hin hk hd ht
 exact ⟨M, h1.keeps hk (hd _ ((h6 _).2 (.inl rfl))) (fun k h => hd _ ((h6 _).2 (.inr (h3 k h)))), h2, h3, h4.then hk (fun i hi hT => absurd (ht i hT) Z8), h6⟩
def DelM (W0 : World) (r2 : Nat) (M0 : List CE) (id B27 B35 : Nat) (s : List Cl × Cl × Act) (S : Nat → Prop) (W : World) : Prop :=
 ∃ X S1, Fr s.2.2 68 [(2, .pointer (some ⟨B27, 0, none⟩)), (3, .pointer (some ⟨B35, 0, none⟩)), (7, .pointer (some ⟨X, 0, none⟩))] ∧ Blk W X 181 [.int .i32 s.2.1.1, .int .i32 s.2.1.2] ∧ DelI W0 r2 M0 id s.1 S1 W ∧ Inb S1 W ∧ ¬ S1 X ∧ ∀ k, S k ↔ S1 k ∨ k = X
theorem delm_stab (W0 : World) (r2 : Nat) (M0 : List CE) (id B27 B35 : Nat) : Stab W0.heap.size (DelM W0 r2 M0 id B27 B35) := by
 intro s S T W W' ⟨X, S1, hF, h1, h2, h3, h4, h5⟩ hin hk hd ht
 exact ⟨X, S1, hF, h1.keeps hk (hd _ ((h5 _).2 (.inr rfl))), deli_stab W0 r2 M0 id s.1 S1 T W W' h2 h3 hk (fun k h => hd k ((h5 k).2 (.inl h))) ht, h3.mono hk.size, h4, h5⟩
theorem del_round (l : Nat) (W0 : World) (G r1 r2 r3 B27 B35 id : Nat) (s : Int) (M0 : List CE) (hG : Blk W0 G 84 [.int .i64 s, .map (some r1), .map (some r2), .map (some r3)]) (b27 : Blk W0 B27 64 [.pointer (some ⟨G, 0, none⟩)]) (b35 : Blk W0 B35 35 [.int .u32 (id : Int)]) (hM0 : CellsM W0 r2 M0) (hB : ¬ Own M0 B35)
 (pre : List Cl) (x : Cl) (hx : ∃ e ∈ pre.foldl (delC id) (viewE M0), e.1 = x) (S : Nat → Prop) (W : World) (a : Act) (hM : DelM W0 r2 M0 id B27 B35 (pre, x, a) S W) (hin : Inb S W) : delBody.wpIn (Fence.wide.inRound l) 7 Tryz.prog (Mem.Left (DelI W0 r2 M0 id) (fun _ _ _ _ => False) (pre ++ [x]) S W) a W := by
 obtain ⟨X, S1, hF, hX, ⟨M, hC, hv, ho, hK, hS1⟩, hin1, hnX, hS⟩ := hM
 simp only at hF hX hv
 revert hF
 refine fun hF => frames68 (P := fun a => Fr a 68 [(2, .pointer (some ⟨B27, 0, none⟩)), (3, .pointer (some ⟨B35, 0, none⟩)), (7, .pointer (some ⟨X, 0, none⟩))] → delBody.wpIn (Fence.wide.inRound l) 7 Tryz.prog (Mem.Left (DelI W0 r2 M0 id) (fun _ _ _ _ => False) (pre ++ [x]) S W) a W) ?_ a hF.1 hF.2.1 hF
 intro u0 u1 u2 u3 u4 u5 u6 u7 u8 u9 u10 u11 u12 u13 u14 u15 u16 u17 u18 u19 u20 u21 u22 u23 u24 u25 u26 u27 u28 u29 u30 u31 u32 u33 u34 u35 u36 u37 u38 u39 u40 u41 u42 u43 u44 u45 u46 u47 u48 u49 u50 u51 u52 u53 u54 u55 u56 u57 u58 u59 u60 u61 u62 u63 u64 u65 u66 u67 hF
 obtain rfl : u2 = .pointer (some ⟨B27, 0, none⟩) := hF.at_ 2 _ ZA7
 obtain rfl : u3 = .pointer (some ⟨B35, 0, none⟩) := hF.at_ 3 _ ZA7
 obtain rfl : u7 = .pointer (some ⟨X, 0, none⟩) := hF.at_ 7 _ ZA7
 clear hF
 obtain ⟨M1, ⟨ec, V, g, cap⟩, M2, hMe, hec, hn1, hn2, hlook⟩ : ∃ M1 e M2, M = M1 ++ e :: M2 ∧ e.c = x ∧ (∀ y ∈ M1, y.c ≠ x) ∧ (∀ y ∈ M2, y.c ≠ x) ∧ lookK x (kvE M) = some e.sl := by
  rcases hC.at_ x with ⟨hno, _⟩ | h
  ·rw [← hv] at hx
   obtain ⟨p, hp, rfl⟩ := hx
   obtain ⟨e, he, rfl⟩ := List.mem_map.1 hp
   exact absurd rfl (hno e he)
  ·exact h
 simp only at hec
 subst hec
 have n27 := hM0.ne b27
 have nG := hM0.ne hG
 have n35 := hM0.ne b35
 have m27 : ¬ Own M0 B27 := hM0.ne_own b27 ZAH
 have mG : ¬ Own M0 G := hM0.ne_own hG ZAH
 have nX : ¬ (X = r2 ∨ Own M0 X) := fun h => hnX ((hS1 X).2 h)
 have HSN := Lib.hid (show ∀ W', Keeps (fun k => k = r2 ∨ Own M0 k) W W' → Blk W' B27 64 [.pointer (some ⟨G, 0, none⟩)] ∧ Blk W' G 84 [.int .i64 s, .map (some r1), .map (some r2), .map (some r3)] ∧ Blk W' X 181 [.int .i32 ec.1, .int .i32 ec.2] ∧ Blk W' B35 35 [.int .u32 (id : Int)] from fun W' hk =>
  ⟨(b27.keeps hK (fun h => h.elim n27 m27)).keeps hk (fun h => h.elim n27 m27), (hG.keeps hK (fun h => h.elim nG mG)).keeps hk (fun h => h.elim nG mG), hX.keeps hk nX, (b35.keeps hK (fun h => h.elim n35 hB)).keeps hk (fun h => h.elim n35 hB)⟩)
 have HS4 := Lib.hid (show ∀ W', Keeps (fun k => k = r2 ∨ Own M0 k) W W' → (∀ i : Nat, W'.cell? ⟨B27, i, none⟩ = ([.pointer (some ⟨G, 0, none⟩)] : List Value)[i]?) ∧ (∀ i : Nat, W'.cell? ⟨G, i, none⟩ = ([.int .i64 s, .map (some r1), .map (some r2), .map (some r3)] : List Value)[i]?) ∧ (∀ i : Nat, W'.cell? ⟨X, i, none⟩ = ([.int .i32 ec.1, .int .i32 ec.2] : List Value)[i]?) ∧ W'.cell? ⟨B35, 0, none⟩ = some (.int .u32 (id : Int)) from fun W' hk => by
  obtain ⟨h1, h2, h3, h4⟩ := HSN.out W' hk
  exact ⟨h1.cell, h2.cell, h3.cell, by have := h4.cell 0; simpa using this⟩)
 have hlk : ∀ W', MapL kcl W' r2 (kvE M) → (Instr.lookup 81 (.map (some r2)) (.agg #[.int .i32 ec.1, .int .i32 ec.2]) false).run Tryz.prog W' = .ok (.slice (some ⟨g, 0, none⟩) V.length cap) W' := fun W' hm => by
  have := hm.look keycl Tryz.underlying81 zvs ec false
  rw [hlook] at this
  exact this
 have hgM : Own M0 g := ho g ⟨⟨ec, V, g, cap⟩, by rw [hMe]; simp, rfl⟩
 have hgO : W.ownsRow 0 35 1 (.slice (some ⟨g, 0, none⟩) V.length cap) V.length (vals V) := hC.own ⟨ec, V, g, cap⟩ (by rw [hMe]; simp)
 have hCd := hC.kd (Keeps.refl (fun _ => False) W).drew
 have hOd : W.drew.ownsRow 0 35 1 (.slice (some ⟨g, 0, none⟩) V.length cap) V.length (vals V) := owns_keeps hgO (Keeps.refl (fun _ => False) W).drew (fun _ _ h => h)
 have h35d := (HSN.out W.drew (Keeps.refl _ W).drew).2.2.2
 have hdf := So.delf_own hOd id B35 h35d (fun e => hB (e ▸ hgM))
 have hSd := HS4.out W.drew (Keeps.refl _ W).drew
 have hS0 : (∀ i : Nat, W.drew.cell? ⟨B27, i, none⟩ = ([.pointer (some ⟨G, 0, none⟩)] : List Value)[i]?) ∧ (∀ i : Nat, W.drew.cell? ⟨G, i, none⟩ = ([.int .i64 s, .map (some r1), .map (some r2), .map (some r3)] : List Value)[i]?) ∧ (∀ i : Nat, W.drew.cell? ⟨X, i, none⟩ = ([.int .i32 ec.1, .int .i32 ec.2] : List Value)[i]?) ∧ W.drew.cell? ⟨B35, 0, none⟩ = some (.int .u32 (id : Int)) ∧ MapL kcl W.drew r2 (kvE M) := ⟨hSd.1, hSd.2.1, hSd.2.2.1, hSd.2.2.2, hCd.map⟩
 have HCd := Lib.hid (And.intro hCd (And.intro hMe (And.intro hn1 hn2)))
 have HI := Lib.hid (And.intro hK (And.intro hS (And.intro hS1 (And.intro hin (And.intro ho (And.intro hv (And.intro hgM (hM0.lt))))))))
 have HDf := Lib.hid hdf
 have HMm := Lib.hid (show ∀ W', Keeps (fun k => k = g) W.drew W' → MapL kcl W' r2 (kvE M) from fun W' hk => hCd.map.keeps hk (fun e => hCd.own_ne ⟨⟨ec, V, g, cap⟩, by rw [hMe]; simp, rfl⟩ e.symm))
 clear hK hS hin hG b27 b35 hM0 n27 nG n35 m27 mG hB hX hC hv ho hS1 hin1 hnX nX hx hn1 hn2 hlook hgM hgO hCd hOd h35d hdf hSd hMe
 conv => arg 4; whnf
 gi_wp2
 refine region_heldIn (fun W' => (∀ i : Nat, W'.cell? ⟨B27, i, none⟩ = ([.pointer (some ⟨G, 0, none⟩)] : List Value)[i]?) ∧ (∀ i : Nat, W'.cell? ⟨G, i, none⟩ = ([.int .i64 s, .map (some r1), .map (some r2), .map (some r3)] : List Value)[i]?) ∧ (∀ i : Nat, W'.cell? ⟨X, i, none⟩ = ([.int .i32 ec.1, .int .i32 ec.2] : List Value)[i]?) ∧ W'.cell? ⟨B35, 0, none⟩ = some (.int .u32 (id : Int)) ∧ MapL kcl W' r2 (kvE M)) ZAB ?_
 (refine anyHeld_take 0 (v := ?_) ZAB rfl ZAB ZAB ZAB (fun _ _ _ h => h) ⟨Or.inl ⟨ZAP, ?_⟩, fun _ _ _ => trivial⟩ ZAF ?_; rotate_left; (focus (rintro w ⟨q1, q2, q3, q4, q5⟩; have q6 := hlk _ q5; clear q5; go_simp; try with_reducible rfl))); simp only [Act.put, List.getElem_toArray, List.getElem_cons_succ, List.getElem_cons_zero, List.setIfInBounds_toArray, List.set_cons_zero, List.set_cons_succ]
 (refine anyHeld_take 1 (v := ?_) ZAB rfl ZAB ZAB ZAB (fun _ _ _ h => h) ⟨Or.inl ⟨ZAP, ?_⟩, fun _ _ _ => trivial⟩ ZAF ?_; rotate_left; (focus (rintro w ⟨q1, q2, q3, q4, q5⟩; have q6 := hlk _ q5; clear q5; go_simp; try with_reducible rfl))); simp only [Act.put, List.getElem_toArray, List.getElem_cons_succ, List.getElem_cons_zero, List.setIfInBounds_toArray, List.set_cons_zero, List.set_cons_succ]
 (refine anyHeld_take 2 (v := ?_) ZAB rfl ZAB ZAB ZAB (fun _ _ _ h => h) ⟨Or.inl ⟨ZAP, ?_⟩, fun _ _ _ => trivial⟩ ZAF ?_; rotate_left; (focus (rintro w ⟨q1, q2, q3, q4, q5⟩; have q6 := hlk _ q5; clear q5; go_simp; try with_reducible rfl))); simp only [Act.put, List.getElem_toArray, List.getElem_cons_succ, List.getElem_cons_zero, List.setIfInBounds_toArray, List.set_cons_zero, List.set_cons_succ]
 (refine anyHeld_take 3 (v := ?_) ZAB rfl ZAB ZAB ZAB (fun _ _ _ h => h) ⟨Or.inl ⟨ZAP, ?_⟩, fun _ _ _ => trivial⟩ ZAF ?_; rotate_left; (focus (rintro w ⟨q1, q2, q3, q4, q5⟩; have q6 := hlk _ q5; clear q5; go_simp; try with_reducible rfl))); simp only [Act.put, List.getElem_toArray, List.getElem_cons_succ, List.getElem_cons_zero, List.setIfInBounds_toArray, List.set_cons_zero, List.set_cons_succ]
 (refine anyHeld_take 4 (v := ?_) ZAB rfl ZAB ZAB ZAB (fun _ _ _ h => h) ⟨Or.inl ⟨ZAP, ?_⟩, fun _ _ _ => trivial⟩ ZAF ?_; rotate_left; (focus (rintro w ⟨q1, q2, q3, q4, q5⟩; have q6 := hlk _ q5; clear q5; go_simp; try with_reducible rfl))); simp only [Act.put, List.getElem_toArray, List.getElem_cons_succ, List.getElem_cons_zero, List.setIfInBounds_toArray, List.set_cons_zero, List.set_cons_succ]
 (refine anyHeld_take 5 (v := ?_) ZAB rfl ZAB ZAB ZAB (fun _ _ _ h => h) ⟨Or.inl ⟨ZAP, ?_⟩, fun _ _ _ => trivial⟩ ZAF ?_; rotate_left; (focus (rintro w ⟨q1, q2, q3, q4, q5⟩; have q6 := hlk _ q5; clear q5; go_simp; try with_reducible rfl))); simp only [Act.put, List.getElem_toArray, List.getElem_cons_succ, List.getElem_cons_zero, List.setIfInBounds_toArray, List.set_cons_zero, List.set_cons_succ]
 (refine anyHeld_take 6 (v := ?_) ZAB rfl ZAB ZAB ZAB (fun _ _ _ h => h) ⟨Or.inl ⟨ZAP, ?_⟩, fun _ _ _ => trivial⟩ ZAF ?_; rotate_left; (focus (rintro w ⟨q1, q2, q3, q4, q5⟩; have q6 := hlk _ q5; clear q5; go_simp; try with_reducible rfl))); simp only [Act.put, List.getElem_toArray, List.getElem_cons_succ, List.getElem_cons_zero, List.setIfInBounds_toArray, List.set_cons_zero, List.set_cons_succ]
 refine anyHeld_one 7 ZAB rfl ZAP (fun K hK => ?_)
 go_simp
 obtain ⟨V', hV'⟩ : ∃ V', V' = V.filter fun x => decide (x ≠ id) := ⟨_, rfl⟩
 refine ⟨trivial, ((callsIn_wide.2 HDf.out).inRound l).mono ?_⟩
 rintro e w1 ⟨rfl, hown, hkg⟩
 rw [← hV'] at hown ⊢
 obtain ⟨hK0, hS', hS1', hin', ho', hv', hgM, hr2⟩ := HI.out
 have hkD : Keeps (fun k => k = r2 ∨ Own M0 k) W w1 := (Keeps.refl _ W).drew.trans (hkg.mono (fun k _ e => .inr (by rw [e]; exact hgM)))
 have hs1 := HS4.out w1 hkD
 have hS1 : (∀ i : Nat, w1.cell? ⟨B27, i, none⟩ = ([.pointer (some ⟨G, 0, none⟩)] : List Value)[i]?) ∧ (∀ i : Nat, w1.cell? ⟨G, i, none⟩ = ([.int .i64 s, .map (some r1), .map (some r2), .map (some r3)] : List Value)[i]?) ∧ (∀ i : Nat, w1.cell? ⟨X, i, none⟩ = ([.int .i32 ec.1, .int .i32 ec.2] : List Value)[i]?) ∧ w1.cell? ⟨B35, 0, none⟩ = some (.int .u32 (id : Int)) ∧ MapL kcl w1 r2 (kvE M) := ⟨hs1.1, hs1.2.1, hs1.2.2.1, hs1.2.2.2, HMm.out w1 hkg⟩
 obtain ⟨hCd, hMe, hn1, hn2⟩ := HCd.out
 have hkgd : Keeps (fun k => k = (⟨ec, V, g, cap⟩ : CE).g) W.drew w1.drew := hkg.drew
 have hownd : w1.drew.ownsRow 0 35 1 (.slice (some ⟨g, 0, none⟩) V'.length cap) V'.length (vals V') := owns_keeps hown (Keeps.refl (fun _ => False) w1).drew (fun _ _ h => h)
 have hcut := hCd.cut hMe hn1 hn2 hkgd hownd
 have hview : viewE M = viewE M1 ++ (ec, V) :: viewE M2 := by rw [hMe]; simp [viewE]
 have hdel : delC id (viewE M) ec = viewE M1 ++ (if V' = [] then viewE M2 else (ec, V') :: viewE M2) := by
  rw [hview, delC_at, ← hV']
  intro p hp; obtain ⟨y, hy, rfl⟩ := List.mem_map.1 hp; exact hn1 y hy
 have HDel := Lib.hid (And.intro hdel (And.intro hMe hkD))
 have HFin := Lib.hid (show ∀ (w2 : World) (M' : List CE), Keeps (fun k => k = r2 ∨ Own M0 k) W w2 → CellsM w2 r2 M' → viewE M' = delC id (viewE M) ec → (∀ k, Own M' k → Own M k) → ∃ S', Foot S S' W w2 ∧ Inb S' w2 ∧ DelI W0 r2 M0 id (pre ++ [ec]) S' w2 from by
  intro w2 M' hk hC' hvw hoo
  refine ⟨S1, ⟨hk.mono (fun k _ h => (hS' k).2 (.inl ((hS1' k).2 h))), fun k h => .inl ((hS' k).2 (.inl h))⟩, fun k h => ?_, M', hC', ?_, fun k h => ho' k (hoo k h), hK0.then hk (fun i hi h => h), hS1'⟩
  ·have := hk.size
   have := hin' k ((hS' k).2 (.inl h))
   omega
  ·rw [hvw, hv', List.foldl_append]; rfl)
 have HCut := Lib.hid hcut
 clear hown hkg hkD hs1 hCd hn1 hn2 hkgd hownd hcut hview hdel hMe hK0 hS' hS1' hin' ho' hv' hgM hr2 hV'
 refine hK _ _ hS1 ?_
 clear hK hS0
 (refine anyHeld_take 8 (v := ?_) ZAB rfl ZAB ZAB ZAB (fun _ _ _ h => h) ⟨Or.inl ⟨ZAP, ?_⟩, fun _ _ _ => trivial⟩ ZAF ?_; rotate_left; (focus (rintro w ⟨q1, q2, q3, q4, q5⟩; have q6 := hlk _ q5; clear q5; go_simp; try with_reducible rfl))); simp only [Act.put, List.getElem_toArray, List.getElem_cons_succ, List.getElem_cons_zero, List.setIfInBounds_toArray, List.set_cons_zero, List.set_cons_succ]
 refine anyHeld_done ZAB ?_ _
 clear hlk hS1
 have hs1d := HS4.out w1.drew HDel.out.2.2.drew
 obtain ⟨n', hn'⟩ : ∃ n', n' = V'.length := ⟨_, rfl⟩
 by_cases hV0 : V' = []
 ·obtain ⟨w2, hrun, hk2, hC2⟩ := HCut.out.1
  simp only [kcl] at hrun
  have h0 : (V'.length : Int) = 0 := by simp [hV0]
  have hk3 : Keeps (fun k => k = r2 ∨ Own M0 k) W w2 := HDel.out.2.2.drew.then hk2 (fun i hi e => .inl e)
  have HE := Lib.hid (And.intro hC2 (And.intro hk3 hV0))
  have hs2 := HS4.out w2 hk3
  clear hC2 hk2 hk3 hV0 hn'
  gi_wp2
  refine region_heldIn (fun W' => (∀ i : Nat, W'.cell? ⟨B27, i, none⟩ = ([.pointer (some ⟨G, 0, none⟩)] : List Value)[i]?) ∧ (∀ i : Nat, W'.cell? ⟨G, i, none⟩ = ([.int .i64 s, .map (some r1), .map (some r2), .map (some r3)] : List Value)[i]?) ∧ (∀ i : Nat, W'.cell? ⟨X, i, none⟩ = ([.int .i32 ec.1, .int .i32 ec.2] : List Value)[i]?) ∧ W'.cell? ⟨B35, 0, none⟩ = some (.int .u32 (id : Int))) ZAB ?_
  (refine anyHeld_take 0 (v := ?_) ZAB rfl ZAB ZAB ZAB (fun _ _ _ h => h) ⟨Or.inl ⟨ZAP, ?_⟩, fun _ _ _ => trivial⟩ ZAF ?_; rotate_left; (focus (rintro w ⟨q1, q2, q3, q4⟩; go_simp; try with_reducible rfl))); simp only [Act.put, List.getElem_toArray, List.getElem_cons_succ, List.getElem_cons_zero, List.setIfInBounds_toArray, List.set_cons_zero, List.set_cons_succ]
  (refine anyHeld_take 1 (v := ?_) ZAB rfl ZAB ZAB ZAB (fun _ _ _ h => h) ⟨Or.inl ⟨ZAP, ?_⟩, fun _ _ _ => trivial⟩ ZAF ?_; rotate_left; (focus (rintro w ⟨q1, q2, q3, q4⟩; go_simp; try with_reducible rfl))); simp only [Act.put, List.getElem_toArray, List.getElem_cons_succ, List.getElem_cons_zero, List.setIfInBounds_toArray, List.set_cons_zero, List.set_cons_succ]
  (refine anyHeld_take 2 (v := ?_) ZAB rfl ZAB ZAB ZAB (fun _ _ _ h => h) ⟨Or.inl ⟨ZAP, ?_⟩, fun _ _ _ => trivial⟩ ZAF ?_; rotate_left; (focus (rintro w ⟨q1, q2, q3, q4⟩; go_simp; try with_reducible rfl))); simp only [Act.put, List.getElem_toArray, List.getElem_cons_succ, List.getElem_cons_zero, List.setIfInBounds_toArray, List.set_cons_zero, List.set_cons_succ]
  (refine anyHeld_take 3 (v := ?_) ZAB rfl ZAB ZAB ZAB (fun _ _ _ h => h) ⟨Or.inl ⟨ZAP, ?_⟩, fun _ _ _ => trivial⟩ ZAF ?_; rotate_left; (focus (rintro w ⟨q1, q2, q3, q4⟩; go_simp; try with_reducible rfl))); simp only [Act.put, List.getElem_toArray, List.getElem_cons_succ, List.getElem_cons_zero, List.setIfInBounds_toArray, List.set_cons_zero, List.set_cons_succ]
  (refine anyHeld_take 4 (v := ?_) ZAB rfl ZAB ZAB ZAB (fun _ _ _ h => h) ⟨Or.inl ⟨ZAP, ?_⟩, fun _ _ _ => trivial⟩ ZAF ?_; rotate_left; (focus (rintro w ⟨q1, q2, q3, q4⟩; go_simp; try with_reducible rfl))); simp only [Act.put, List.getElem_toArray, List.getElem_cons_succ, List.getElem_cons_zero, List.setIfInBounds_toArray, List.set_cons_zero, List.set_cons_succ]
  refine anyHeld_one 5 ZAB rfl ZAP (fun K hK => ?_)
  go_simp
  refine hK _ _ hs2 ?_
  clear hK
  refine anyHeld_done ZAB ?_ _
  gi_wp2
  refine HFin.out w2 (M1 ++ M2) HE.out.2.1 HE.out.1 ?_ ?_
  ·rw [HDel.out.1, if_pos HE.out.2.2]; simp [viewE]
  ·rintro k ⟨y, hy, rfl⟩
   refine ⟨y, ?_, rfl⟩
   rw [HDel.out.2.1]
   rcases List.mem_append.1 hy with hy | hy <;> simp [hy]
 ·obtain ⟨w2, hrun, hk2, hC2⟩ := HCut.out.2
  simp only [kcl] at hrun
  have h0 : ¬ (V'.length : Int) = 0 := by
   intro h
   exact hV0 (List.length_eq_zero_iff.1 Z8)
  have hk3 : Keeps (fun k => k = r2 ∨ Own M0 k) W w2 := HDel.out.2.2.drew.then hk2 (fun i hi e => .inl e)
  have HE := Lib.hid (And.intro hC2 (And.intro hk3 hV0))
  have hs2 := HS4.out w2 hk3
  clear hC2 hk2 hk3 hV0 hn'
  gi_wp2
  refine region_heldIn (fun W' => (∀ i : Nat, W'.cell? ⟨B27, i, none⟩ = ([.pointer (some ⟨G, 0, none⟩)] : List Value)[i]?) ∧ (∀ i : Nat, W'.cell? ⟨G, i, none⟩ = ([.int .i64 s, .map (some r1), .map (some r2), .map (some r3)] : List Value)[i]?) ∧ (∀ i : Nat, W'.cell? ⟨X, i, none⟩ = ([.int .i32 ec.1, .int .i32 ec.2] : List Value)[i]?) ∧ W'.cell? ⟨B35, 0, none⟩ = some (.int .u32 (id : Int))) ZAB ?_
  (refine anyHeld_take 0 (v := ?_) ZAB rfl ZAB ZAB ZAB (fun _ _ _ h => h) ⟨Or.inl ⟨ZAP, ?_⟩, fun _ _ _ => trivial⟩ ZAF ?_; rotate_left; (focus (rintro w ⟨q1, q2, q3, q4⟩; go_simp; try with_reducible rfl))); simp only [Act.put, List.getElem_toArray, List.getElem_cons_succ, List.getElem_cons_zero, List.setIfInBounds_toArray, List.set_cons_zero, List.set_cons_succ]
  (refine anyHeld_take 1 (v := ?_) ZAB rfl ZAB ZAB ZAB (fun _ _ _ h => h) ⟨Or.inl ⟨ZAP, ?_⟩, fun _ _ _ => trivial⟩ ZAF ?_; rotate_left; (focus (rintro w ⟨q1, q2, q3, q4⟩; go_simp; try with_reducible rfl))); simp only [Act.put, List.getElem_toArray, List.getElem_cons_succ, List.getElem_cons_zero, List.setIfInBounds_toArray, List.set_cons_zero, List.set_cons_succ]
  (refine anyHeld_take 2 (v := ?_) ZAB rfl ZAB ZAB ZAB (fun _ _ _ h => h) ⟨Or.inl ⟨ZAP, ?_⟩, fun _ _ _ => trivial⟩ ZAF ?_; rotate_left; (focus (rintro w ⟨q1, q2, q3, q4⟩; go_simp; try with_reducible rfl))); simp only [Act.put, List.getElem_toArray, List.getElem_cons_succ, List.getElem_cons_zero, List.setIfInBounds_toArray, List.set_cons_zero, List.set_cons_succ]
  (refine anyHeld_take 3 (v := ?_) ZAB rfl ZAB ZAB ZAB (fun _ _ _ h => h) ⟨Or.inl ⟨ZAP, ?_⟩, fun _ _ _ => trivial⟩ ZAF ?_; rotate_left; (focus (rintro w ⟨q1, q2, q3, q4⟩; go_simp; try with_reducible rfl))); simp only [Act.put, List.getElem_toArray, List.getElem_cons_succ, List.getElem_cons_zero, List.setIfInBounds_toArray, List.set_cons_zero, List.set_cons_succ]
  (refine anyHeld_take 4 (v := ?_) ZAB rfl ZAB ZAB ZAB (fun _ _ _ h => h) ⟨Or.inl ⟨ZAP, ?_⟩, fun _ _ _ => trivial⟩ ZAF ?_; rotate_left; (focus (rintro w ⟨q1, q2, q3, q4⟩; go_simp; try with_reducible rfl))); simp only [Act.put, List.getElem_toArray, List.getElem_cons_succ, List.getElem_cons_zero, List.setIfInBounds_toArray, List.set_cons_zero, List.set_cons_succ]
  (refine anyHeld_take 5 (v := ?_) ZAB rfl ZAB ZAB ZAB (fun _ _ _ h => h) ⟨Or.inl ⟨ZAP, ?_⟩, fun _ _ _ => trivial⟩ ZAF ?_; rotate_left; (focus (rintro w ⟨q1, q2, q3, q4⟩; go_simp; try with_reducible rfl))); simp only [Act.put, List.getElem_toArray, List.getElem_cons_succ, List.getElem_cons_zero, List.setIfInBounds_toArray, List.set_cons_zero, List.set_cons_succ]
  refine anyHeld_one 6 ZAB rfl ZAP (fun K hK => ?_)
  go_simp
  refine hK _ _ hs2 ?_
  clear hK
  refine anyHeld_done ZAB ?_ _
  gi_wp2
  refine HFin.out w2 (M1 ++ ⟨ec, V', g, cap⟩ :: M2) HE.out.2.1 HE.out.1 ?_ ?_
  ·rw [HDel.out.1, if_neg HE.out.2.2]; simp [viewE]
  ·rintro k ⟨y, hy, rfl⟩
   rw [HDel.out.2.1]
   rcases List.mem_append.1 hy with hy | hy
   ·exact ⟨y, by simp [hy], rfl⟩
   ·rcases List.mem_cons.1 hy with rfl | hy
    ·exact ⟨⟨ec, V, g, cap⟩, ZA7, rfl⟩
    ·exact ⟨y, by simp [hy], rfl⟩
end Gs
open Go.RowKit Go.Shelf
namespace Gs
open Mem Gr
def delB (id : Nat) (L : List (Nat × Bx)) : List (Nat × Bx) := L.filter fun p => decide (p.1 ≠ id)
def delA (id : Nat) (A : List Nat) : List Nat := A.filter fun a => decide (a ≠ id)
theorem delK_kvB (id : Nat) (L : List (Nat × Bx)) : delK id (kvB L) = kvB (delB id L) := by
 unfold delK kvB delB; rw [List.filter_map]; rfl
theorem delK_kvA (id : Nat) (A : List Nat) : delK id (kvA A) = kvA (delA id A) := by
 unfold delK kvA delA; rw [List.filter_map]; rfl
theorem zvb (W : World) : (zeroValue 4).run Tryz.prog W = .ok (.bool false) W := by kernel_rfl
theorem look_ap {W : World} {r : Nat} {A : List Nat} (h : MapL kid W r (kvA A)) (id : Nat) : (Instr.lookup 82 (.map (some r)) (.int .u32 (id : Int)) false).run Tryz.prog W = .ok (.bool (decide (id ∈ A))) W := by
 have := h.look keyid Tryz.underlying82 zvb id false
 have e : (lookK id (kvA A)).getD (.bool false) = .bool (decide (id ∈ A)) := by
  clear this h
  induction A with
  | nil => rfl
  | cons a A ih =>
   show (lookK id ((a, .bool true) :: kvA A)).getD (.bool false) = _
   rw [lookK]
   by_cases h : a = id
   ·simp [h]
   ·rw [if_neg h, ih]; simp [Ne.symm h]
 rw [e] at this
 simpa [kid] using this
theorem hasB_mem {L : List (Nat × Bx)} {id : Nat} {b : Bx} (h : (id, b) ∈ L) : hasB L id = true := by
 unfold hasB; rw [List.any_eq_true]; exact ⟨(id, b), h, ZA7⟩
theorem look_mem {W : World} {r : Nat} {L : List (Nat × Bx)} (h : MapL kid W r (kvB L)) {id : Nat} {b : Bx} (hm : (id, b) ∈ L) : (Instr.lookup 60 (.map (some r)) (.int .u32 (id : Int)) true).run Tryz.prog W = .ok (.tuple #[.agg #[.int .i32 b.x0, .int .i32 b.y0, .int .i32 b.x1, .int .i32 b.y1], .bool true]) W := by
 have h1 := look_box h id
 rw [lookK_mem h.nodup (List.mem_map.2 ⟨(id, b), hm, rfl⟩), hasB_mem hm] at h1
 exact h1
theorem GridM.unboxed {w : World} {G r1 r2 r3 : Nat} {s : Int} {L : List (Nat × Bx)} {A : List Nat} {M : List CE} (h : GridM w G r1 r2 r3 s L A M) (id : Nat) :
 ∃ w', (Builtin.delete_ #[60, 35] 0 #[.map (some r1), .int .u32 (id : Int)]).run Tryz.prog w = .ok (.tuple #[]) w' ∧ GridM w' G r1 r2 r3 s (delB id L) A M ∧ Keeps (fun k => k = r1) w w' := by
 obtain ⟨w', hrun, hm, hk⟩ := h.m1.delete keyid (kty := 35) Tryz.underlying60 id 0
 rw [delK_kvB] at hm
 exact ⟨w', hrun, ⟨h.blk.keeps hk (h.m1.ne h.blk), hm, h.m2.keeps hk (fun e => h.d12 e.symm) (fun k hk e => mapL_own h.m1 h.m2 (e ▸ hk)), h.m3.keeps hk (fun e => h.d13 e.symm), h.d12, h.d13, h.d23⟩, hk⟩
theorem GridM.unaparted {w : World} {G r1 r2 r3 : Nat} {s : Int} {L : List (Nat × Bx)} {A : List Nat} {M : List CE} (h : GridM w G r1 r2 r3 s L A M) (id : Nat) :
 ∃ w', (Builtin.delete_ #[82, 35] 0 #[.map (some r3), .int .u32 (id : Int)]).run Tryz.prog w = .ok (.tuple #[]) w' ∧ GridM w' G r1 r2 r3 s L (delA id A) M ∧ Keeps (fun k => k = r3) w w' := by
 obtain ⟨w', hrun, hm, hk⟩ := h.m3.delete keyid (kty := 35) Tryz.underlying82 id 0
 rw [delK_kvA] at hm
 exact ⟨w', hrun, ⟨h.blk.keeps hk (h.m3.ne h.blk), h.m1.keeps hk (fun e => h.d13 e), h.m2.keeps hk (fun e => h.d23 e) (fun k hk e => mapL_own h.m3 h.m2 (e ▸ hk)), hm, h.d12, h.d13, h.d23⟩, hk⟩
theorem del_facts {w : World} {G r1 r2 r3 : Nat} {s : Int} {L : List (Nat × Bx)} {A : List Nat} {M : List CE} (h : GridM w G r1 r2 r3 s L A M) (id : Nat) :
 ∀ W', Keeps (FpG r1 r2 r3 M) ((w.alloc (.cells #[.pointer (some ⟨G, 0, none⟩)] 64)).alloc (.cells #[.int .u32 (id : Int)] 35)) W' → Blk W' G 84 [.int .i64 s, .map (some r1), .map (some r2), .map (some r3)] ∧ Blk W' w.heap.size 64 [.pointer (some ⟨G, 0, none⟩)] ∧ Blk W' (w.heap.size + 1) 35 [.int .u32 (id : Int)] := by
 intro W' hk
 have k2 : Keeps (fun _ => False) w ((w.alloc (.cells #[.pointer (some ⟨G, 0, none⟩)] 64)).alloc (.cells #[.int .u32 (id : Int)] 35)) := by (repeat (first | exact Keeps.refl _ _ | refine Keeps.alloc ?_ _ | refine Keeps.drew ?_))
 have b27 := (Blk.new w 64 [.pointer (some ⟨G, 0, none⟩)]).alloc (.cells #[.int .u32 (id : Int)] 35)
 have b35 := Blk.new (w.alloc (.cells #[.pointer (some ⟨G, 0, none⟩)] 64)) 35 [.int .u32 (id : Int)]
 simp only [World.size_alloc] at b27 b35
 have hn : ∀ k, w.heap.size ≤ k → ¬ FpG r1 r2 r3 M k := fun k hk he => by have := h.fp_lt he; omega
 exact ⟨(h.blk.keeps k2 (fun h => h)).keeps hk h.G_fp, b27.keeps hk (hn _ (Nat.le_refl _)), b35.keeps hk (hn _ Z8)⟩
theorem del_apart (w : World) (G r1 r2 r3 : Nat) (s : Int) (L : List (Nat × Bx)) (A : List Nat) (M : List CE) (h : GridM w G r1 r2 r3 s L A M) (id : Nat) (b : Bx) (hm : (id, b) ∈ L) (hA : id ∈ A) : Calls Tryz.prog 119 #[.pointer (some ⟨G, 0, none⟩), .int .u32 (id : Int)] w (fun e w' => ∃ M', e = .returned (.int .i64 0) ∧ GridM w' G r1 r2 r3 s (delB id L) (delA id A) M' ∧ viewE M' = (viewE M) ∧ Keeps (FpG r1 r2 r3 M) w w' ∧ ∀ k, Own M' k → Own M k) := by
 have k2 : Keeps (fun _ => False) w ((w.alloc (.cells #[.pointer (some ⟨G, 0, none⟩)] 64)).alloc (.cells #[.int .u32 (id : Int)] 35)) := by (repeat (first | exact Keeps.refl _ _ | refine Keeps.alloc ?_ _ | refine Keeps.drew ?_))
 have HT := Lib.hid (h.blk.keeps k2 (fun h => h))
 have HG := Lib.hid (And.intro h (And.intro hm hA))
 have HN := Lib.hid (del_facts h id)
 have HSN := Lib.hid (show ∀ W', Keeps (FpG r1 r2 r3 M) ((w.alloc (.cells #[.pointer (some ⟨G, 0, none⟩)] 64)).alloc (.cells #[.int .u32 (id : Int)] 35)) W' → (∀ i : Nat, W'.cell? ⟨w.heap.size, i, none⟩ = ([.pointer (some ⟨G, 0, none⟩)] : List Value)[i]?) ∧ (∀ i : Nat, W'.cell? ⟨w.heap.size + 1, i, none⟩ = ([.int .u32 (id : Int)] : List Value)[i]?) ∧ (∀ i : Nat, W'.cell? ⟨G, i, none⟩ = ([.int .i64 s, .map (some r1), .map (some r2), .map (some r3)] : List Value)[i]?) from fun W' hk => by have hX := HN.out W' hk; exact ⟨hX.2.1.cell, hX.2.2.cell, hX.1.cell⟩)
 have hlk1 := look_mem ((h.m1.keeps k2 (fun h => h)).drew) hm
 have hlk2 := fun o => look_mem (((h.m1.keeps k2 (fun h => h)).alloc o).drew) hm
 have HK := Lib.hid k2
 clear h hm hA k2
 (refine (callsIn_wide (n := 9)).1 ?_; refine callsIn_of_wp_marks Tryz.func119 rfl trivial ?_ rfl; simp only [Tryz.ntmps119, List.size_toArray, List.length_cons, List.length_nil, Nat.reduceAdd, Nat.reduceSub, Array.replicate_succ, Array.replicate_zero, List.push_toArray, List.append_toArray, List.nil_append, List.cons_append]; gi_wp2_with (refine ⟨trivial, ?_⟩; gi_at_call 122; refine (callsIn_wide.2 (there_t _ HT.out)).mono ?_; rintro e w1 ⟨rfl, rfl⟩))
 refine wpIn_wide.2 ?_
 go_region_held3 (fun W => (∀ i : Nat, W.cell? ⟨w.heap.size, i, none⟩ = ([.pointer (some ⟨G, 0, none⟩)] : List Value)[i]?) ∧ (∀ i : Nat, W.cell? ⟨w.heap.size + 1, i, none⟩ = ([.int .u32 (id : Int)] : List Value)[i]?) ∧ (∀ i : Nat, W.cell? ⟨G, i, none⟩ = ([.int .i64 s, .map (some r1), .map (some r2), .map (some r3)] : List Value)[i]?)) (first | with_reducible assumption | exact HSN.out _ Z4) (first | fail)
 all_goals
  gi_wp2
  refine (show ∀ Wx, Keeps (fun _ => False) ((w.alloc (.cells #[.pointer (some ⟨G, 0, none⟩)] 64)).alloc (.cells #[.int .u32 (id : Int)] 35)) Wx → Code.wpIn _ _ _ _ _ _ Wx from ?_) _ Z4
  clear hlk1 hlk2
  intro Wx hk5
  obtain ⟨Wy, hup, hG5, hku⟩ := ((HG.out.1.kd (HK.out.trans hk5)).kd (Keeps.refl (fun _ => False) Wx).drew).unboxed id
  have hk6 : Keeps (FpG r1 r2 r3 M) ((w.alloc (.cells #[.pointer (some ⟨G, 0, none⟩)] 64)).alloc (.cells #[.int .u32 (id : Int)] 35)) Wx := hk5.mono (fun _ _ h => h.elim)
  have HK5 := Lib.hid hk6
  have HK6 := Lib.hid (hk6.drew.then hku (fun i hi e => .inl e))
  have H5 := Lib.hid hG5
  clear hk5 hG5 hku hk6
  refine wpIn_wide.2 ?_
  go_region_held3 (fun W => (∀ i : Nat, W.cell? ⟨w.heap.size, i, none⟩ = ([.pointer (some ⟨G, 0, none⟩)] : List Value)[i]?) ∧ (∀ i : Nat, W.cell? ⟨w.heap.size + 1, i, none⟩ = ([.int .u32 (id : Int)] : List Value)[i]?) ∧ (∀ i : Nat, W.cell? ⟨G, i, none⟩ = ([.int .i64 s, .map (some r1), .map (some r2), .map (some r3)] : List Value)[i]?)) (first | with_reducible assumption | exact HSN.out _ (by first | exact HK5.out.drew | exact HK6.out)) (first | fail)
  clear hup
  gi_wp2
  have hla := look_ap (H5.out.m3.drew) id
  rw [decide_eq_true HG.out.2.2] at hla
  refine wpIn_wide.2 ?_
  go_region_held3 (fun W => (∀ i : Nat, W.cell? ⟨w.heap.size, i, none⟩ = ([.pointer (some ⟨G, 0, none⟩)] : List Value)[i]?) ∧ (∀ i : Nat, W.cell? ⟨w.heap.size + 1, i, none⟩ = ([.int .u32 (id : Int)] : List Value)[i]?) ∧ (∀ i : Nat, W.cell? ⟨G, i, none⟩ = ([.int .i64 s, .map (some r1), .map (some r2), .map (some r3)] : List Value)[i]?)) (first | with_reducible assumption | exact HSN.out _ (by exact HK6.out.drew)) (first | fail)
  clear hla
  gi_wp2
  obtain ⟨Wz, hup, hG6, hku⟩ := (((H5.out).kd (Keeps.refl (fun _ => False) Wy).drew).kd (Keeps.refl (fun _ => False) Wy.drew).drew).unaparted id
  have HK8 := Lib.hid (HK6.out.drew.drew.then hku (fun i hi e => .inr (.inr (.inl e))))
  have H6 := Lib.hid hG6
  clear hG6 hku
  refine wpIn_wide.2 ?_
  go_region_held3 (fun W => (∀ i : Nat, W.cell? ⟨w.heap.size, i, none⟩ = ([.pointer (some ⟨G, 0, none⟩)] : List Value)[i]?) ∧ (∀ i : Nat, W.cell? ⟨w.heap.size + 1, i, none⟩ = ([.int .u32 (id : Int)] : List Value)[i]?) ∧ (∀ i : Nat, W.cell? ⟨G, i, none⟩ = ([.int .i64 s, .map (some r1), .map (some r2), .map (some r3)] : List Value)[i]?)) (first | with_reducible assumption | exact HSN.out _ (by first | exact HK6.out.drew.drew | exact HK8.out)) (first | fail)
  clear hup
  gi_wp2
  exact ⟨_, results_tmp rfl _ _ _, M, rfl, H6.out, rfl, (HK.out.mono (fun _ _ h => h.elim)).trans HK8.out, fun k h => h⟩
theorem del_in (w : World) (G r1 r2 r3 : Nat) (s : Int) (hs : Size s) (L : List (Nat × Bx)) (A : List Nat) (M : List CE) (h : GridM w G r1 r2 r3 s L A M) (id : Nat) (b : Bx) (hm : (id, b) ∈ L) (hA : id ∉ A) (hb : Right b) (hE : ∀ c ∈ coverL s b, ∃ e ∈ viewE M, e.1 = c) : Calls Tryz.prog 119 #[.pointer (some ⟨G, 0, none⟩), .int .u32 (id : Int)] w (fun e w' => ∃ M', e = .returned (.int .i64 0) ∧ GridM w' G r1 r2 r3 s (delB id L) (A) M' ∧ viewE M' = ((coverL s b).foldl (delC id) (viewE M)) ∧ Keeps (FpG r1 r2 r3 M) w w' ∧ ∀ k, Own M' k → Own M k) := by
 have k2 : Keeps (fun _ => False) w ((w.alloc (.cells #[.pointer (some ⟨G, 0, none⟩)] 64)).alloc (.cells #[.int .u32 (id : Int)] 35)) := by (repeat (first | exact Keeps.refl _ _ | refine Keeps.alloc ?_ _ | refine Keeps.drew ?_))
 have HT := Lib.hid (h.blk.keeps k2 (fun h => h))
 have HG := Lib.hid (And.intro h (And.intro hm (And.intro hA (And.intro hb (And.intro hE hs)))))
 have HN := Lib.hid (del_facts h id)
 have HSN := Lib.hid (show ∀ W', Keeps (FpG r1 r2 r3 M) ((w.alloc (.cells #[.pointer (some ⟨G, 0, none⟩)] 64)).alloc (.cells #[.int .u32 (id : Int)] 35)) W' → (∀ i : Nat, W'.cell? ⟨w.heap.size, i, none⟩ = ([.pointer (some ⟨G, 0, none⟩)] : List Value)[i]?) ∧ (∀ i : Nat, W'.cell? ⟨w.heap.size + 1, i, none⟩ = ([.int .u32 (id : Int)] : List Value)[i]?) ∧ (∀ i : Nat, W'.cell? ⟨G, i, none⟩ = ([.int .i64 s, .map (some r1), .map (some r2), .map (some r3)] : List Value)[i]?) from fun W' hk => by have hX := HN.out W' hk; exact ⟨hX.2.1.cell, hX.2.2.cell, hX.1.cell⟩)
 have hlk1 := look_mem ((h.m1.keeps k2 (fun h => h)).drew) hm
 have hlk2 := fun o => look_mem (((h.m1.keeps k2 (fun h => h)).alloc o).drew) hm
 have HK := Lib.hid k2
 clear h hm hA k2 hb hE hs
 (refine (callsIn_wide (n := 9)).1 ?_; refine callsIn_of_wp_marks Tryz.func119 rfl trivial ?_ rfl; simp only [Tryz.ntmps119, List.size_toArray, List.length_cons, List.length_nil, Nat.reduceAdd, Nat.reduceSub, Array.replicate_succ, Array.replicate_zero, List.push_toArray, List.append_toArray, List.nil_append, List.cons_append]; gi_wp2_with (refine ⟨trivial, ?_⟩; gi_at_call 122; refine (callsIn_wide.2 (there_t _ HT.out)).mono ?_; rintro e w1 ⟨rfl, rfl⟩))
 refine wpIn_wide.2 ?_
 go_region_held3 (fun W => (∀ i : Nat, W.cell? ⟨w.heap.size, i, none⟩ = ([.pointer (some ⟨G, 0, none⟩)] : List Value)[i]?) ∧ (∀ i : Nat, W.cell? ⟨w.heap.size + 1, i, none⟩ = ([.int .u32 (id : Int)] : List Value)[i]?) ∧ (∀ i : Nat, W.cell? ⟨G, i, none⟩ = ([.int .i64 s, .map (some r1), .map (some r2), .map (some r3)] : List Value)[i]?)) (first | with_reducible assumption | exact HSN.out _ Z4) (first | fail)
 all_goals
  gi_wp2
  refine (show ∀ Wx, Keeps (fun _ => False) ((w.alloc (.cells #[.pointer (some ⟨G, 0, none⟩)] 64)).alloc (.cells #[.int .u32 (id : Int)] 35)) Wx → Blk Wx (w.heap.size + 1 + 1) 39 [.int .i32 b.x0, .int .i32 b.y0, .int .i32 b.x1, .int .i32 b.y1] → Code.wpIn _ _ _ _ _ _ Wx from ?_) _ Z4 ZAE
  clear hlk1 hlk2
  intro Wx hk5 hbx
  obtain ⟨Wy, hup, hG5, hku⟩ := ((HG.out.1.kd (HK.out.trans hk5)).kd (Keeps.refl (fun _ => False) Wx).drew).unboxed id
  have hk6 : Keeps (FpG r1 r2 r3 M) ((w.alloc (.cells #[.pointer (some ⟨G, 0, none⟩)] 64)).alloc (.cells #[.int .u32 (id : Int)] 35)) Wx := hk5.mono (fun _ _ h => h.elim)
  have HK5 := Lib.hid hk6
  have hxy : Keeps (FpG r1 r2 r3 M) Wx Wy := ((Keeps.refl _ Wx).drew).then hku (fun i hi e => .inl e)
  have HXY := Lib.hid hxy
  have HK6 := Lib.hid (hk6.trans hxy)
  have H5 := Lib.hid hG5
  have hnb : ¬ FpG r1 r2 r3 M (w.heap.size + 1 + 1) := fun h => by have := HG.out.1.fp_lt h; omega
  have HB5 := Lib.hid (show ∀ W', Keeps (FpG r1 r2 r3 M) Wx W' → (∀ i : Nat, W'.cell? ⟨w.heap.size, i, none⟩ = ([.pointer (some ⟨G, 0, none⟩)] : List Value)[i]?) ∧ (∀ i : Nat, W'.cell? ⟨w.heap.size + 1, i, none⟩ = ([.int .u32 (id : Int)] : List Value)[i]?) ∧ (∀ i : Nat, W'.cell? ⟨w.heap.size + 1 + 1, i, none⟩ = ([.int .i32 b.x0, .int .i32 b.y0, .int .i32 b.x1, .int .i32 b.y1] : List Value)[i]?) ∧ (∀ i : Nat, W'.cell? ⟨G, i, none⟩ = ([.int .i64 s, .map (some r1), .map (some r2), .map (some r3)] : List Value)[i]?) from fun W' hk => by
   have hX := HN.out W' (hk6.trans hk)
   exact ⟨hX.2.1.cell, hX.2.2.cell, (hbx.keeps hk hnb).cell, hX.1.cell⟩)
  clear hk5 hG5 hku hk6 hxy
  refine wpIn_wide.2 ?_
  go_region_held3 (fun W => (∀ i : Nat, W.cell? ⟨w.heap.size, i, none⟩ = ([.pointer (some ⟨G, 0, none⟩)] : List Value)[i]?) ∧ (∀ i : Nat, W.cell? ⟨w.heap.size + 1, i, none⟩ = ([.int .u32 (id : Int)] : List Value)[i]?) ∧ (∀ i : Nat, W.cell? ⟨G, i, none⟩ = ([.int .i64 s, .map (some r1), .map (some r2), .map (some r3)] : List Value)[i]?)) (first | with_reducible assumption | exact HSN.out _ (by first | exact HK5.out.drew | exact HK6.out)) (first | fail)
  clear hup
  gi_wp2
  have hla := look_ap (H5.out.m3.drew) id
  rw [decide_eq_false HG.out.2.2.1] at hla
  refine wpIn_wide.2 ?_
  go_region_held3 (fun W => (∀ i : Nat, W.cell? ⟨w.heap.size, i, none⟩ = ([.pointer (some ⟨G, 0, none⟩)] : List Value)[i]?) ∧ (∀ i : Nat, W.cell? ⟨w.heap.size + 1, i, none⟩ = ([.int .u32 (id : Int)] : List Value)[i]?) ∧ (∀ i : Nat, W.cell? ⟨G, i, none⟩ = ([.int .i64 s, .map (some r1), .map (some r2), .map (some r3)] : List Value)[i]?)) (first | with_reducible assumption | exact HSN.out _ (by exact HK6.out.drew)) (first | fail)
  clear hla
  gi_wp2
  have HK8 := Lib.hid (show Keeps (FpG r1 r2 r3 M) Wx ((Wy.drew.drew.alloc (.cells #[.int .i32 b.x0, .int .i32 b.y0, .int .i32 b.x1, .int .i32 b.y1] 39)).alloc (.cells #[.int .i64 s] 2)) from (HXY.out.drew.drew.alloc _).alloc _)
  refine wpIn_wide.2 ?_
  go_region_held3 (fun W => (∀ i : Nat, W.cell? ⟨w.heap.size, i, none⟩ = ([.pointer (some ⟨G, 0, none⟩)] : List Value)[i]?) ∧ (∀ i : Nat, W.cell? ⟨w.heap.size + 1, i, none⟩ = ([.int .u32 (id : Int)] : List Value)[i]?) ∧ (∀ i : Nat, W.cell? ⟨w.heap.size + 1 + 1, i, none⟩ = ([.int .i32 b.x0, .int .i32 b.y0, .int .i32 b.x1, .int .i32 b.y1] : List Value)[i]?) ∧ (∀ i : Nat, W.cell? ⟨G, i, none⟩ = ([.int .i64 s, .map (some r1), .map (some r2), .map (some r3)] : List Value)[i]?)) (first | with_reducible assumption | exact HB5.out _ (by first | exact HXY.out.drew.drew | exact HK8.out)) (first
   | (go_at_call 127; (with_reducible refine (cover_t _ _ _).mono ?_); rintro e w8 ⟨rfl, rfl⟩))
  gi_wp2
  refine (show ∀ Wz, Keeps (fun _ => False) Wy Wz → Blk Wz (Wy.heap.size + 1) 2 [.int .i64 s] → Blk Wz Wy.heap.size 39 [.int .i32 b.x0, .int .i32 b.y0, .int .i32 b.x1, .int .i32 b.y1] → Code.wpIn _ _ _ _ _ _ Wz from ?_) _ Z4 ZAE ZAE
  intro Wz kz hSB hBB
  have hkz : Keeps (FpG r1 r2 r3 M) ((w.alloc (.cells #[.pointer (some ⟨G, 0, none⟩)] 64)).alloc (.cells #[.int .u32 (id : Int)] 35)) Wz := HK6.out.trans (kz.mono (fun _ _ h => h.elim))
  obtain ⟨hGz, b27, b35⟩ := HN.out _ hkz
  have hG6 := H5.out.kd kz
  have hKW : Keeps (FpG r1 r2 r3 M) w Wz := (HK.out.mono (fun _ _ h => h.elim)).trans hkz
  have HKZ := Lib.hid hKW
  have H6 := Lib.hid hG6
  have hoB : ¬ Own M (w.heap.size + 1) := fun h => by have := HG.out.1.m2.own_lt h; omega
  refine wpIn_range (gf := 138) (lb := #[.pointer (some ⟨Wy.heap.size + 1, 0, none⟩), .pointer (some ⟨Wy.heap.size, 0, none⟩)]) (encs := fun c : Cl => #[.agg #[.int .i32 c.1, .int .i32 c.2]]) (xs := coverL s b) (A := fun _ => True) rfl (enters_of Tryz.func138 ZAB rfl)
   (fun W1 hk => cover_gives 8 _ _ s b HG.out.2.2.2.2.2 HG.out.2.2.2.1 W1 (hSB.keeps hk (fun h => h)) (hBB.keeps hk (fun h => h))) (fun _ => rfl)
   (DelI Wz r2 M id) (fun _ _ _ _ => False) (deli_stab Wz r2 M id) (fun _ _ _ _ _ _ h => h.elim)
   (fun k => k = r2 ∨ Own M k) (fun k hk => by rcases hk with rfl | hk; exact hG6.m2.lt; exact hG6.m2.own_lt hk) ⟨M, hG6.m2, rfl, fun k h => h, Keeps.refl _ _, fun _ => Iff.rfl⟩ (fun _ _ => trivial)
   (DelM Wz r2 M id w.heap.size (w.heap.size + 1)) (delm_stab Wz r2 M id _ _) ?assign ?body ?done ?stop
  case assign =>
   intro l pre x rest S W hxs hI hin hlt
   have HX := Lib.hid (And.intro hI hin)
   clear hI hin hGz b27 b35 hG6 hSB hBB
   gi_wp2
   obtain ⟨hI, hin⟩ := HX.out
   have ka := (Keeps.refl (fun _ => False) W).alloc (.cells #[.int .i32 x.1, .int .i32 x.2] 181)
   refine ⟨fun k => S k ∨ k = W.heap.size, ⟨ka.mono (fun _ _ h => h.elim), fun k hk => ?_⟩, fun k hk => ?_, W.heap.size, S, ⟨rfl, rfl, ZA7⟩, Blk.new W 181 [.int .i32 x.1, .int .i32 x.2], deli_stab Wz r2 M id pre S (fun _ => False) W _ hI hin ka (fun _ _ h => h) (fun _ h => h.elim), hin.mono ka.size, fun h => by have := hin _ h; omega, fun _ => Iff.rfl⟩
   ·rcases hk with h | h
    ·exact .inl h
    ·exact .inr Z8
   ·simp only [World.size_alloc]
    rcases hk with h | h
    ·have := hin k h; omega
    ·omega
  case body =>
   intro l pre x rest a1 S W hxs hM hin hlt
   have hnx : x ∉ pre := by
    have := coverL_nodup s b
    rw [hxs, List.nodup_append] at this
    exact fun h => this.2.2 x h x ZA7 rfl
   exact del_round l Wz G r1 r2 r3 _ _ id s M hGz b27 b35 hG6.m2 hoB pre x (delC_others hnx (HG.out.2.2.2.2.1 x (by rw [hxs]; simp))) S W a1 hM hin
  case done =>
   rintro D S' W' hD hnD hf hin ⟨M', h1, h2, h3, h4, h6⟩ hDD
   have HH := Lib.hid (And.intro h1 (And.intro h2 (And.intro h3 (And.intro h4 (And.intro h6 (And.intro hD hnD))))))
   have kp := keeps_putObj W' D (.deferred none)
   have HP := Lib.hid kp
   have HDD := Lib.hid hDD
   clear kp h1 h2 h3 h4 h6 hGz b27 b35 hG6 hkz hKW hSB hBB kz hD hnD hDD hf hin
   gi_wp2
   refine ⟨ZA7, .inl ⟨_, _, rfl, run_takeDeferred HDD.out, ?_⟩⟩
   obtain ⟨h1, h2, h3, h4, h6, hD, hnD⟩ := HH.out
   have hg := H6.out
   have hn1 : ¬ (r1 = r2 ∨ Own M r1) := fun h => h.elim hg.d12 (fun h => mapL_own hg.m1 hg.m2 h)
   have hn3 : ¬ (r3 = r2 ∨ Own M r3) := fun h => h.elim (fun e => hg.d23 e.symm) (fun h => mapL_own hg.m3 hg.m2 h)
   have hnG : ¬ (G = r2 ∨ Own M G) := fun h => h.elim (hg.m2.ne hg.blk) (hg.m2.ne_own hg.blk ZAH)
   have l1 := hg.m1.lt
   have l3 := hg.m3.lt
   have lG := hg.blk.lt
   have hsz := HKZ.out.size
   exact ⟨_, results_tmp rfl _ _ _, M', rfl, ⟨(hg.blk.keeps h4 hnG).keeps HP.out (fun e => Z8), (hg.m1.keeps h4 hn1).keeps HP.out (fun e => Z8), h1.keeps HP.out (fun e => hnD (e ▸ (h6 _).2 (.inl rfl))) (fun k hk e => hnD (e ▸ (h6 _).2 (.inr (h3 k hk)))), (hg.m3.keeps h4 hn3).keeps HP.out (fun e => Z8), hg.d12, hg.d13, hg.d23⟩, h2, ((HKZ.out).then h4 (fun i hi h => h.elim (fun e => .inr (.inl e)) (fun h => .inr (.inr (.inr h))))).then HP.out (fun i hi e => Z8), h3⟩
  case stop =>
   intro D c0 pre S' W' hD hnD hf hin hpre hx
   exact hx.elim
end Gs
end Go.Proofs.YtdbpfbokfmpgcaaGreat
