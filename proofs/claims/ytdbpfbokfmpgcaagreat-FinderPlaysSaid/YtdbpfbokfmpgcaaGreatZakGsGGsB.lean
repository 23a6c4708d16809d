/-
GsG: a map of cells, each with a list of its own.
GsB: between, Cover: what they hand out.
-/
import Derived.Test.YtdbpfbokfmpgcaaGreatZacGsM
import Derived.Test.YtdbpfbokfmpgcaaGreatZaiSoM
import Derived.Test.YtdbpfbokfmpgcaaGreatZaaMemIterTreeAHeldGrowIter
import Derived.Test.YtdbpfbokfmpgcaaGreatZajGsA
import Derived.Test.YtdbpfbokfmpgcaaGreatZabGrAGsPFiQGrBGrCGrDGrE
set_option linter.unusedVariables false
set_option linter.unusedSimpArgs false
set_option linter.ambiguousOpen false
set_option maxRecDepth 100000
attribute [local go_sem] Go.Oper.semAt_some
namespace Go.Proofs.YtdbpfbokfmpgcaaGreat
theorem ZAt {p : Prop} (h : p := by simp [hx]) : p := h
open Go.RowKit Go.Shelf
namespace Gs
open Mem
open So (vals)
structure CE where
 c : Int × Int
 ids : List Nat
 g : Nat
 cap : Nat
def CE.sl (e : CE) : Value := .slice (some ⟨e.g, 0, none⟩) e.ids.length e.cap
def kvE (M : List CE) : List ((Int × Int) × Value) := M.map fun e => (e.c, e.sl)
def viewE (M : List CE) : List ((Int × Int) × List Nat) := M.map fun e => (e.c, e.ids)
def Own (M : List CE) (k : Nat) : Prop := ∃ e ∈ M, e.g = k
structure CellsM (w : World) (r : Nat) (M : List CE) : Prop where
 map : MapL kcl w r (kvE M)
 own : ∀ e ∈ M, w.ownsRow 0 35 1 e.sl e.ids.length (vals e.ids)
 apart : (M.map (·.g)).Nodup
variable {w w' : World} {r : Nat} {M : List CE}
theorem CellsM.lt (h : CellsM w r M) : r < w.heap.size := h.map.lt
theorem CellsM.own_lt (h : CellsM w r M) {k : Nat} (hk : Own M k) : k < w.heap.size := by
 obtain ⟨e, he, rfl⟩ := hk
 exact ((h.own e he).lt e.g rfl).2
theorem CellsM.own_ne (h : CellsM w r M) {k : Nat} (hk : Own M k) : k ≠ r := by
 obtain ⟨e, he, rfl⟩ := hk
 intro e1
 exact (h.map.own_ne (h.own e he)) (by simp [CE.sl, Value.ownBlock, e1])
theorem CellsM.keeps {S : Nat → Prop} (h : CellsM w r M) (hk : Keeps S w w') (hr : ¬ S r) (ho : ∀ k, Own M k → ¬ S k) : CellsM w' r M :=
 ⟨h.map.keeps hk hr, fun e he => owns_keeps (h.own e he) hk (fun b hb => ho b ⟨e, he, by simpa [CE.sl, Value.ownBlock] using hb⟩), h.apart⟩
theorem CellsM.kd (h : CellsM w r M) (hk : Keeps (fun _ => False) w w') : CellsM w' r M := h.keeps hk (fun h => h) (fun _ _ h => h)
theorem CellsM.new (w : World) : CellsM (w.alloc (.map #[] 0)) w.heap.size [] := ⟨MapL.new kcl w, ZA7, ZA7⟩
theorem CellsM.ne (h : CellsM w r M) {b : Nat} {t : TypeId} {cs : List Value} (hb : Blk w b t cs) : b ≠ r := h.map.ne hb
theorem CellsM.ne_own (h : CellsM w r M) {b : Nat} {t : TypeId} {cs : List Value} (hb : Blk w b t cs) (hne : 35 ≠ t) : ¬ Own M b := by
 rintro ⟨e, he, rfl⟩
 exact Mem.own_ne (h.own e he) hb hne (by simp [CE.sl, Value.ownBlock])
theorem CellsM.at_ (h : CellsM w r M) (c : Int × Int) : ((∀ e ∈ M, e.c ≠ c) ∧ lookK c (kvE M) = none) ∨ ∃ M1 e M2, M = M1 ++ e :: M2 ∧ e.c = c ∧ (∀ x ∈ M1, x.c ≠ c) ∧ (∀ x ∈ M2, x.c ≠ c) ∧ lookK c (kvE M) = some e.sl := by
 have hn := h.map.nodup
 unfold kvE at hn
 rw [List.map_map] at hn
 clear h
 induction M with
 | nil => exact .inl ⟨ZA7, rfl⟩
 | cons e M ih =>
  rw [List.map_cons, List.nodup_cons] at hn
  by_cases he : e.c = c
  ·refine .inr ⟨[], e, M, rfl, he, ZA7, fun x hx hxe => hn.1 (List.mem_map.2 ⟨x, hx, by simp [hxe, he]⟩), ?_⟩
   simp [kvE, lookK, he]
  ·rcases ih hn.2 with ⟨h1, h2⟩ | ⟨M1, x, M2, rfl, h1, h2, h3, h4⟩
   ·refine .inl ⟨fun x hx => ?_, ?_⟩
    ·rcases List.mem_cons.1 hx with rfl | hx
     ·exact he
     ·exact h1 x hx
    ·show lookK c ((e.c, e.sl) :: kvE M) = none
     rw [lookK, if_neg he, h2]
   ·refine .inr ⟨e :: M1, x, M2, rfl, h1, fun y hy => ?_, h3, ?_⟩
    ·rcases List.mem_cons.1 hy with rfl | hy
     ·exact he
     ·exact h2 y hy
    ·show lookK c ((e.c, e.sl) :: kvE (M1 ++ x :: M2)) = _
     rw [lookK, if_neg he, h4]
def addC (id : Nat) (C : List ((Int × Int) × List Nat)) (c : Int × Int) : List ((Int × Int) × List Nat) :=
 match C with
 | [] => [(c, [id])]
 | e :: L => if e.1 = c then (c, e.2 ++ [id]) :: L else e :: addC id L c
theorem addC_no {id : Nat} {c : Int × Int} {C : List ((Int × Int) × List Nat)} (h : ∀ e ∈ C, e.1 ≠ c) : addC id C c = C ++ [(c, [id])] := by
 induction C with
 | nil => rfl
 | cons e L ih => rw [addC, if_neg (h e ZA7), ih (fun x hx => h x ZAt)]; rfl
theorem addC_at {id : Nat} {c : Int × Int} {V : List Nat} {L1 L2 : List ((Int × Int) × List Nat)} (h : ∀ e ∈ L1, e.1 ≠ c) : addC id (L1 ++ (c, V) :: L2) c = L1 ++ (c, V ++ [id]) :: L2 := by
 induction L1 with
 | nil => simp [addC]
 | cons e L ih => rw [List.cons_append, addC, if_neg (h e ZA7), ih (fun x hx => h x ZAt)]; rfl
theorem zvs (W : World) : (zeroValue 45).run Tryz.prog W = .ok (.slice none 0 0) W := by kernel_rfl
theorem CellsM.put (h : CellsM w r M) (c : Int × Int) (id : Nat) : ∃ w1 st v V, (Instr.mapEntry 81 (.map (some r)) (kcl c)).run Tryz.prog w = .ok (.tuple #[v, .int .i64 ((st : Nat) : Int)]) w1 ∧ Keeps (fun k => k = r) w w1 ∧ w1.ownsRow 0 35 1 v V.length (vals V) ∧ (V = [] ∨ ∃ e ∈ M, e.ids = V) ∧ (∀ k, v.ownBlock = some k → Own M k) ∧
 ∀ w2 v', w1.grownBy w2 v.ownBlock → w2.ownsRow 0 35 1 v' (V.length + 1) (vals V ++ [.int .u32 (id : Int)]) → (v'.ownBlock = v.ownBlock ∨ v'.ownBlock = some w1.heap.size) →
  ∃ w3 M', (Instr.entryStore 81 (.map (some r)) (.int .i64 ((st : Nat) : Int)) v').run Tryz.prog w2 = .ok () w3 ∧ Keeps (fun k => k = r) w2 w3 ∧ CellsM w3 r M' ∧ viewE M' = addC id (viewE M) c ∧ ∀ k, Own M' k → Own M k ∨ k = w1.heap.size := by
 obtain ⟨w1, st, hrun, hE, hk1⟩ := h.map.entry keycl Tryz.underlying81 zvs c
 have hr1 : r < w1.heap.size := hE.lt
 have own1 : ∀ e ∈ M, w1.ownsRow 0 35 1 e.sl e.ids.length (vals e.ids) := fun e he => owns_keeps (h.own e he) hk1 (fun b hb e1 => h.own_ne ⟨e, he, rfl⟩ (by simpa [CE.sl, Value.ownBlock, e1] using hb))
 have fin : ∀ (v : Value) (V : List Nat) (M1 M2 : List CE) (w2 : World) (v' : Value), (∀ k, v.ownBlock = some k → Own M k) → (∀ x ∈ M1 ++ M2, x ∈ M ∧ (∀ k, v.ownBlock = some k → x.g ≠ k)) → (∀ x ∈ M1, x.c ≠ c) → ((M1 ++ M2).map (·.g)).Nodup →
  (∀ u, setK c u (kvE M) = kvE M1 ++ (c, u) :: kvE M2) → (addC id (viewE M) c = viewE M1 ++ (c, V ++ [id]) :: viewE M2) →
  w1.grownBy w2 v.ownBlock → w2.ownsRow 0 35 1 v' (V.length + 1) (vals V ++ [.int .u32 (id : Int)]) → (v'.ownBlock = v.ownBlock ∨ v'.ownBlock = some w1.heap.size) →
  ∃ w3 M', (Instr.entryStore 81 (.map (some r)) (.int .i64 ((st : Nat) : Int)) v').run Tryz.prog w2 = .ok () w3 ∧ Keeps (fun k => k = r) w2 w3 ∧ CellsM w3 r M' ∧ viewE M' = addC id (viewE M) c ∧ ∀ k, Own M' k → Own M k ∨ k = w1.heap.size := by
  intro v V M1 M2 w2 v' hvo hM hM1 hnd hset hadd hgrow hown hat
  obtain ⟨g, cap, rfl⟩ := ownsRow_succ hown
  have hk2 : Keeps (fun k => some k = v.ownBlock) w1 w2 := Keeps.of_grown hgrow
  have hrv : ¬ (some r = v.ownBlock) := fun e => h.own_ne (hvo r e.symm) rfl
  obtain ⟨w3, hrun3, hM3, hk3⟩ := (hE.keeps hk2 hrv).store (mt := 81) (.slice (some ⟨g, 0, none⟩) (V.length + 1) cap)
  have hgv : Own M g ∨ g = w1.heap.size := by
   rcases hat with e | e
   ·exact .inl (hvo g (by rw [← e]; rfl))
   ·exact .inr (by simpa [Value.ownBlock] using e)
  have hgr : g ≠ r := by
   rcases hgv with h1 | h1
   ·exact h.own_ne h1
   ·omega
  refine ⟨w3, M1 ++ ⟨c, V ++ [id], g, cap⟩ :: M2, hrun3, hk3, ⟨?_, ?_, ?_⟩, ?_, ?_⟩
  ·rw [hset] at hM3
   simpa [kvE, CE.sl] using hM3
  ·have old : ∀ x ∈ M1 ++ M2, w3.ownsRow 0 35 1 x.sl x.ids.length (vals x.ids) := fun x hx => by
    obtain ⟨h1, h2⟩ := hM x hx
    refine owns_keeps (owns_keeps (own1 x h1) hk2 (fun b hb e1 => ?_)) hk3 (fun b hb e1 => h.own_ne ⟨x, h1, rfl⟩ (by simpa [CE.sl, Value.ownBlock, e1] using hb))
    exact h2 b e1.symm (by simpa [CE.sl, Value.ownBlock] using hb)
   intro x hx
   rcases List.mem_append.1 hx with hx | hx
   ·exact old x ZAt
   ·rcases List.mem_cons.1 hx with rfl | hx
    ·have h3 := owns_keeps hown hk3 (fun b hb e1 => hgr (by simp [Value.ownBlock] at hb; omega))
     simpa [CE.sl, vals] using h3
    ·exact old x ZAt
  ·have hng : ∀ x ∈ M1 ++ M2, x.g ≠ g := fun x hx e1 => by
    obtain ⟨h1, h2⟩ := hM x hx
    rcases hat with e | e
    ·exact h2 g (by rw [← e]; rfl) e1
    ·have h3 : g = w1.heap.size := by simpa [Value.ownBlock] using e
     have h4 := h.own_lt ⟨x, h1, rfl⟩
     have h5 := hk1.size
     omega
   have hp : ((M1 ++ ⟨c, V ++ [id], g, cap⟩ :: M2).map (·.g)).Perm (g :: (M1 ++ M2).map (·.g)) := by
    rw [List.map_append, List.map_cons, List.map_append]
    exact List.perm_middle
   rw [hp.nodup_iff, List.nodup_cons]
   refine ⟨fun hm => ?_, hnd⟩
   obtain ⟨x, hx, e1⟩ := List.mem_map.1 hm
   exact hng x hx e1
  ·rw [hadd]; simp [viewE]
  ·rintro k ⟨x, hx, rfl⟩
   rcases List.mem_append.1 hx with hx | hx
   ·exact .inl ⟨x, (hM x ZAt).1, rfl⟩
   ·rcases List.mem_cons.1 hx with rfl | hx
    ·exact hgv
    ·exact .inl ⟨x, (hM x ZAt).1, rfl⟩
 rcases h.at_ c with ⟨hno, hl⟩ | ⟨M1, e, M2, hMe, hec, h1, h2, hl⟩
 ·rw [hl] at hrun
  refine ⟨w1, st, .slice none 0 0, [], hrun, hk1, World.ownsRow_nil _ _ _ _, .inl rfl, fun k hk => by simp [Value.ownBlock] at hk, fun w2 v' hg ho ha => ?_⟩
  refine fin (.slice none 0 0) [] M [] w2 v' (fun k hk => by simp [Value.ownBlock] at hk) (fun x hx => ⟨by simpa using hx, fun k hk => by simp [Value.ownBlock] at hk⟩) hno (by simpa using h.apart) (fun u => ?_) ?_ hg ho ha
  ·rw [setK_no]
   ·simp [kvE]
   ·intro p hp; obtain ⟨x, hx, rfl⟩ := List.mem_map.1 hp; exact hno x hx
  ·rw [addC_no]
   ·simp [viewE]
   ·intro p hp; obtain ⟨x, hx, rfl⟩ := List.mem_map.1 hp; exact hno x hx
 ·rw [hl] at hrun
  have heM : e ∈ M := by rw [hMe]; simp
  have hap := h.apart
  rw [hMe, List.map_append, List.map_cons, List.nodup_append] at hap
  have hnd : ((M1 ++ M2).map (·.g)).Nodup := by
   have := h.apart
   rw [hMe] at this
   exact this.sublist ((List.Sublist.append (List.Sublist.refl _) (List.sublist_cons_self _ _)).map _)
  refine ⟨w1, st, e.sl, e.ids, hrun, hk1, own1 e heM, .inr ⟨e, heM, rfl⟩, fun k hk => ⟨e, heM, by simpa [CE.sl, Value.ownBlock] using hk⟩, fun w2 v' hg ho ha => ?_⟩
  refine fin e.sl e.ids M1 M2 w2 v' (fun k hk => ⟨e, heM, by simpa [CE.sl, Value.ownBlock] using hk⟩) (fun x hx => ⟨?_, fun k hk => ?_⟩) h1 hnd (fun u => ?_) ?_ hg ho ha
  ·rw [hMe]
   rcases List.mem_append.1 hx with hx | hx <;> simp [hx]
  ·have hk' : e.g = k := by simpa [CE.sl, Value.ownBlock] using hk
   subst hk'
   rcases List.mem_append.1 hx with hx | hx
   ·exact hap.2.2 x.g (List.mem_map.2 ⟨x, hx, rfl⟩) e.g ZA7
   ·intro e1
    exact (List.nodup_cons.1 hap.2.1).1 (by rw [← e1]; exact List.mem_map.2 ⟨x, hx, rfl⟩)
  ·rw [hMe]
   unfold kvE
   rw [List.map_append, List.map_cons, hec, setK_at]
   intro p hp; obtain ⟨x, hx, rfl⟩ := List.mem_map.1 hp; exact h1 x hx
  ·rw [hMe]
   unfold viewE
   rw [List.map_append, List.map_cons, hec, addC_at]
   intro p hp; obtain ⟨x, hx, rfl⟩ := List.mem_map.1 hp; exact h1 x hx
end Gs
open Go.RowKit Go.Shelf
namespace Gs
open Mem Gr
theorem upto_get {a b : Int} {i : Nat} (h : i < (upto a b).length) : (upto a b)[i] = a + (i : Int) := by simp [upto]
theorem between_t (a b : Int) (w : World) : Calls Tryz.prog 139 #[.int .i32 a, .int .i32 b] w fun e w' => e = .returned (.func (.func 145) #[] #[.pointer (some ⟨w.heap.size, 0, none⟩), .pointer (some ⟨w.heap.size + 1, 0, none⟩)]) ∧ (w.alloc (.cells #[.int .i32 a] 21)).alloc (.cells #[.int .i32 b] 21) = w' := by
 go_enter Tryz.func139, Tryz.ntmps139
 go_wp2
 go_ret
 exact ⟨rfl, rfl⟩
theorem between1_gives (n B1 B2 : Nat) (a b : Int) (W : World) (ha : -1073741824 ≤ a) (hb : b ≤ 1073741824) (h1 : Blk W B1 21 [.int .i32 a]) (h2 : Blk W B2 21 [.int .i32 b]) :
 Gives Tryz.prog n 145 #[.pointer (some ⟨B1, 0, none⟩), .pointer (some ⟨B2, 0, none⟩)] (fun x : Int => #[.int .i32 x]) (upto a b) W (fun S => ¬ S B1 ∧ ¬ S B2) := by
 intro l J Jx S hA hJ hJx hin hY h0
 refine callsIn_of_wp Tryz.func145 rfl trivial ?_ rfl
 simp only [Tryz.ntmps145, List.size_toArray, List.length_cons, List.length_nil, Nat.reduceAdd, Nat.reduceSub, Array.replicate_succ, Array.replicate_zero, List.push_toArray, List.append_toArray, List.nil_append, List.cons_append]
 have HY := Lib.hid hY; clear hY
 have c1 := h1.cell 0
 have c2 := h2.cell 0
 simp only [List.getElem?_cons_zero] at c1 c2
 obtain ⟨xs, hxs⟩ := ZE (upto a b)
 have hl : xs.length = (b - a + 1).toNat := by rw [hxs, upto_len]
 have hg : ∀ i (h : i < xs.length), xs[i] = a + (i : Int) := by subst hxs; exact fun i h => upto_get h
 rw [← hxs] at HY ⊢
 clear hxs
 have HG := Lib.hid hg; clear hg
 gi_wp2
 gi_loopw [4] (fun p wr => ∃ (i : Nat) (Sk : Nat → Prop), i ≤ xs.length ∧ p = .int .i32 (a + (i : Int)) ∧ J (xs.take i) Sk wr ∧ Inb Sk wr ∧ Foot S Sk W wr) (fun p _ => (b + 1 - intOf p).toNat)
 case atStart => exact ⟨0, S, Nat.zero_le _, ZA7, by simpa using h0, hin, Foot.refl _ _⟩
 case round =>
  obtain ⟨i, Sk, hi, rfl, hj, hink, hf⟩ := hrel
  have c2' : wr.cell? ⟨B2, 0, none⟩ = some (.int .i32 b) := hf.1.cell (p := ⟨B2, 0, none⟩) c2 hA.2
  by_cases hlt : i < xs.length
  ·have hle : a + (i : Int) ≤ b := by omega
   have hsplit : xs = xs.take i ++ xs[i] :: xs.drop (i + 1) := by rw [← List.drop_eq_getElem_cons hlt, List.take_append_drop]
   have htk : xs.take (i + 1) = xs.take i ++ [xs[i]] := (List.take_append_getElem hlt).symm
   obtain ⟨fn, tmps, assign, body, hy, hR⟩ := HY.out (xs.take i) xs[i] _ Sk wr hsplit hj hink
   rw [HG.out i hlt] at hy
   have hw : IntKind.i32.wrap (a + (i : Int) + 1) = a + (i : Int) + 1 := IntWalk.i32_in _ Z8
   have HT := Lib.hid htk; clear htk hsplit
   have HJ := Lib.hid hj; clear hj h0
   gi_wp2
   refine ⟨fun h => by simp [Fence.wide] at h, hR.mono ?_⟩
   rintro e W3 ⟨S3, hf3, hin3, (⟨rfl, hj3⟩ | ⟨rfl, hj3⟩)⟩
   ·gi_wp2
    go_roundw
    case rel => exact ⟨i + 1, S3, Z8, by congr 1; omega, by rw [HT.out]; exact hj3, hin3, hf.trans hf3⟩
    case measure => simp [intOf]; omega
   ·gi_wp2
    refine bodyPost_ret (results_none rfl _ _ _) rfl ?_
    exact ⟨⟨_, rfl⟩, S3, hf.trans hf3, hin3, .inr ⟨xs.take i ++ [xs[i]], ⟨xs.drop (i + 1), ZA7⟩, hj3⟩⟩
  ·obtain rfl : i = xs.length := by omega
   have hle : ¬ a + (xs.length : Int) ≤ b := by omega
   gi_wp2
   go_end0
   exact ⟨⟨_, rfl⟩, Sk, hf, hink, .inl (by simpa using hj)⟩
end Gs
end Go.Proofs.YtdbpfbokfmpgcaaGreat
