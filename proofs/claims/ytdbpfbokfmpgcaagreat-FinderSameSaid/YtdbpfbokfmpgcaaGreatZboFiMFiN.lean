/-
FiM: those, over the keys of the scan's map, over a grid's list, over a tree's; the closures that take.
FiN: the finder: what hands out the numbers, what takes the boxes; the scan's At and Crossing.
-/
import Derived.Test.YtdbpfbokfmpgcaaGreatZblFiHFiJFiK
import Derived.Test.YtdbpfbokfmpgcaaGreatZbnFiE
import Derived.Test.YtdbpfbokfmpgcaaGreatZbjFiLFiG
import Derived.Test.YtdbpfbokfmpgcaaGreatZavTreeCTreeDTrMTreeBaTreeE
import Derived.ChangeKeysEq
set_option linter.ambiguousOpen false
namespace Go.Proofs.YtdbpfbokfmpgcaaGreat
open Go.RowKit Go.Shelf
set_option linter.unusedVariables false
set_option linter.unusedSimpArgs false
set_option linter.ambiguousOpen false
attribute [local go_sem] Oper.semAt_some
namespace Fi
open Mem Gr Gs
open So (vals)
/-- what is told: the numbers of the boxes that are taken -/
def TellA (L : List (Nat × Bx)) (tk : Bx → Prop) (w : World) (e : Ending) (w' : World) : Prop := ∃ VB V, e = .returned (.func (.func 92) #[] #[.pointer (some ⟨VB, 0, none⟩)]) ∧ Keeps (fun _ => False) w w' ∧ Vals w.heap.size w' VB V ∧ Ans L tk V
theorem TellA.congr {L : List (Nat × Bx)} {tk tk' : Bx → Prop} {w w' : World} {e : Ending} (h : TellA L tk w e w') (he : ∀ id b, (id, b) ∈ L → (tk b ↔ tk' b)) : TellA L tk' w e w' := by
  obtain ⟨VB, V, h1, h2, h3, h4⟩ := h
  exact ⟨VB, V, h1, h2, h3, h4.congr he⟩
section
variable {w : World} {B off r : Nat} {L : List (Nat × Bx)}
theorem keys_of {E : List (Nat × Value × Nat)} (h : kvs E = kvB L) : E.map (·.1) = L.map (·.1) := by
  have : (kvs E).map (·.1) = (kvB L).map (·.1) := by rw [h]
  rw [kvs_keys] at this
  rw [this]; simp [kvB, Function.comp_def]
theorem those_keys (hB : ScB w B off r) (hM : MapL kid w r (kvB L)) (hL : OkL L) (PB : Nat) (hP : Blk w PB 60 [.map (some r)])
    (tf : Nat) (tb : Array Value) (tk : Bx → Bool) (et : ∀ args w, (callFunc tf args).run Tryz.prog w = .ok (.enter tf args) w) (htk : Takes w tf tb tk) :
    Calls Tryz.prog 75 #[.pointer (some ⟨B, off, none⟩), .func (.func 83) #[] #[.pointer (some ⟨PB, 0, none⟩)], .func (.func tf) #[] tb] w (TellA L (fun b => tk b = true) w) := by
  obtain ⟨E, clock, hE, hkv⟩ := id hM
  have hk := keys_of hkv
  have hl : E.length = L.length := by
    have := congrArg List.length hk
    simpa using this
  have hl2 := hL.len
  refine those_t w B off r L hB hM hL _ _ (KNx E) (KFin E) (fun S => ¬ S r) (enters_of Tryz.func83 (by kernel_rfl) rfl)
    (fun W1 k => keys1_gives 8 PB r clock E W1 (hP.keeps k (fun h => h)) (hE.keeps k (fun h => h))) (fun S hS h => by have := hS r h; have := hM.lt; omega)
    (fun pre x h => by have := h.2; omega) (fun ys h => by have := h.2; omega) tf tb tk et htk (fun ys h id b hb _ => h.1 id (by rw [hk]; exact List.mem_map.2 ⟨_, hb, rfl⟩))
theorem those_list (hB : ScB w B off r) (hM : MapL kid w r (kvB L)) (hL : OkL L) (gf : Nat) (lb : Array Value) (xs : List Nat) (A : (Nat → Prop) → Prop) (eg : ∀ args w, (callFunc gf args).run Tryz.prog w = .ok (.enter gf args) w)
    (hg : ∀ W1, Keeps (fun _ => False) w W1 → Gives Tryz.prog 8 gf lb (fun x : Nat => #[.int .u32 (x : Int)]) xs W1 A) (hA : ∀ S, (∀ k, S k → w.heap.size ≤ k) → A S) (hl : xs.length ≤ 65536)
    (tf : Nat) (tb : Array Value) (tk : Bx → Bool) (et : ∀ args w, (callFunc tf args).run Tryz.prog w = .ok (.enter tf args) w) (htk : Takes w tf tb tk) (hall : ∀ id b, (id, b) ∈ L → tk b = true → id ∈ xs) :
    Calls Tryz.prog 75 #[.pointer (some ⟨B, off, none⟩), .func (.func gf) #[] lb, .func (.func tf) #[] tb] w (TellA L (fun b => tk b = true) w) := by
  refine those_t w B off r L hB hM hL gf lb (fun pre x => ∃ rest, xs = pre ++ x :: rest) (fun ys => ys = xs) A eg (fun W1 k => GivesP.of (hg W1 k)) hA ?_ (fun ys h => by rw [h]; omega) tf tb tk et htk (fun ys h id b hb ht => by rw [h]; exact hall id b hb ht)
  rintro pre x ⟨rest, e⟩
  rw [e] at hl
  simp at hl
  omega
/-- over the values that a grid tells -/
theorem those_vals (hB : ScB w B off r) (hM : MapL kid w r (kvB L)) (hL : OkL L) {base VB : Nat} {V : List Nat} (hV : Vals base w VB V) (hl : V.length ≤ 65536)
    (tf : Nat) (tb : Array Value) (tk : Bx → Bool) (et : ∀ args w, (callFunc tf args).run Tryz.prog w = .ok (.enter tf args) w) (htk : Takes w tf tb tk) (hall : ∀ id b, (id, b) ∈ L → tk b = true → id ∈ V) :
    Calls Tryz.prog 75 #[.pointer (some ⟨B, off, none⟩), .func (.func 92) #[] #[.pointer (some ⟨VB, 0, none⟩)], .func (.func tf) #[] tb] w (TellA L (fun b => tk b = true) w) := by
  obtain ⟨_, a, cp, hb, ho⟩ := hV
  refine those_list hB hM hL _ _ V (fun S => ∀ k, S k → ¬ Tree.rowOf (.slice a V.length cp) k) (enters_of Tryz.func92 (by kernel_rfl) rfl)
    (fun W1 k => Tree.values1_gives 8 VB (.slice a V.length cp) V W1 (by omega) (by have := (hb.keeps k (fun h => h)).cell 0; simpa using this) (Tree.U32s.of_own (owns_keeps ho k (fun _ _ h => h)))) (fun S hS k hk hr => ?_) hl tf tb tk et htk hall
  obtain ⟨a', n', c', e1, e2⟩ := hr
  simp only [Value.slice.injEq] at e1
  obtain ⟨rfl, _, _⟩ := e1
  have := (ho.lt k (by simp [Value.ownBlock, e2])).2
  have := hS k hk
  omega
def rangeL (L : List (Nat × Tree.Bx)) (c : Tree.Bx) : List Nat := (L.filter fun p => p.2.meet c).map (·.1)
theorem hits_range (c : Tree.Bx) (t : Tree.BT) : Tree.idsOf (Tree.hits c t) = rangeL (Tree.BT.inord t) c := by
  unfold Tree.idsOf Tree.hits rangeL
  rw [← Tree.nodes_inord, List.filter_map, List.map_map]
  rfl
theorem tree_gives (w : World) (T : Nat) (S : Nat → Prop) (L : List (Nat × Tree.Bx)) (B1 B2 : Nat) (c : Tree.Bx) (h1 : Blk w B1 70 [.pointer (some ⟨T, 0, none⟩)]) (h2 : Blk w B2 39 [.int .i32 c.x0, .int .i32 c.y0, .int .i32 c.x1, .int .i32 c.y1]) (h : Tree.TrS w T S L) (W1 : World) (hk : Keeps (fun _ => False) w W1) :
    Gives Tryz.prog 8 160 #[.pointer (some ⟨B1, 0, none⟩), .pointer (some ⟨B2, 0, none⟩)] (fun x : Nat => #[.int .u32 (x : Int)]) (rangeL L c) W1 (fun _ => True) := by
  have hl : (rangeL L c).length ≤ 1000000 := by
    obtain ⟨_, _, _, _, _, _, _, h6, _⟩ := h
    have : (rangeL L c).length ≤ L.length := by unfold rangeL; rw [List.length_map]; exact List.length_filter_le _ _
    omega
  refine Tree.range1_gives 8 B1 B2 _ c _ W1 hl (h1.keeps hk (fun h => h)) (h2.keeps hk (fun h => h)) ?_
  obtain ⟨r, t, hH, hM, he, hR, hI, hl', hS⟩ := h.kd hk
  have hf := hits_range c t
  rw [he] at hf
  have := Tree.found_t T r t c W1 hH (by
    have e : (Tree.hits c t).length = (rangeL L c).length := by rw [← hf]; simp [Tree.idsOf]
    omega)
  rw [hf] at this
  exact this
theorem mem_range {Lt : List (Nat × Tree.Bx)} {c : Tree.Bx} {id : Nat} : id ∈ rangeL Lt c ↔ ∃ t, (id, t) ∈ Lt ∧ t.meet c = true := by
  unfold rangeL
  simp only [List.mem_map, List.mem_filter]
  constructor
  · rintro ⟨⟨i, t⟩, ⟨h1, h2⟩, rfl⟩; exact ⟨t, h1, h2⟩
  · rintro ⟨t, h1, h2⟩; exact ⟨_, ⟨h1, h2⟩, rfl⟩
theorem those_tree (hB : ScB w B off r) (hM : MapL kid w r (kvB L)) (hL : OkL L) (T : Nat) (S : Nat → Prop) (Lt : List (Nat × Tree.Bx)) (B1 B2 : Nat) (c : Tree.Bx) (h1 : Blk w B1 70 [.pointer (some ⟨T, 0, none⟩)]) (h2 : Blk w B2 39 [.int .i32 c.x0, .int .i32 c.y0, .int .i32 c.x1, .int .i32 c.y1]) (h : Tree.TrS w T S Lt) (hw : Tw L Lt)
    (tf : Nat) (tb : Array Value) (tk : Bx → Bool) (et : ∀ args w, (callFunc tf args).run Tryz.prog w = .ok (.enter tf args) w) (htk : Takes w tf tb tk) (hall : ∀ id b, (id, b) ∈ L → tk b = true → (toT b).meet c = true) :
    Calls Tryz.prog 75 #[.pointer (some ⟨B, off, none⟩), .func (.func 160) #[] #[.pointer (some ⟨B1, 0, none⟩), .pointer (some ⟨B2, 0, none⟩)], .func (.func tf) #[] tb] w (TellA L (fun b => tk b = true) w) := by
  refine those_list hB hM hL _ _ (rangeL Lt c) (fun _ => True) (enters_of Tryz.func160 (by kernel_rfl) rfl) (fun W1 k => tree_gives w T S Lt B1 B2 c h1 h2 h W1 k) (fun _ _ => trivial) ?_ tf tb tk et htk (fun id b hb ht => mem_range.2 ⟨toT b, (hw id b).2 hb, hall id b hb ht⟩)
  obtain ⟨_, _, _, _, _, _, _, h6, _⟩ := h
  have : (rangeL Lt c).length ≤ Lt.length := by unfold rangeL; rw [List.length_map]; exact List.length_filter_le _ _
  omega
end
/-! what takes -/
theorem covers_takes (px py : Int) (PB : Nat) (w : World) (hP : Blk w PB 37 [.int .i32 px, .int .i32 py]) : Takes w 84 #[.pointer (some ⟨PB, 0, none⟩)] (fun b => decide (coversP px py b)) :=
  fun b W1 _ k => covers1_t px py b PB W1 (hP.keeps k (fun h => h))
theorem meets_takes_off (w : World) : Takes w 86 #[] (fun _ => false) := fun b W1 _ k => meets1_t b W1
theorem meets_takes (px py qx qy : Int) (PB QB : Nat) (w : World) (hP : Blk w PB 37 [.int .i32 px, .int .i32 py]) (hQ : Blk w QB 37 [.int .i32 qx, .int .i32 qy]) (hp : On px py) (hq : On qx qy) : Takes w 87 #[.pointer (some ⟨PB, 0, none⟩), .pointer (some ⟨QB, 0, none⟩)] (fun b => decide (meetsP px py qx qy b)) :=
  fun b W1 hb k => meets2_t px py qx qy b PB QB W1 (hP.keeps k (fun h => h)) (hQ.keeps k (fun h => h)) hp hq hb
theorem ent_covers : ∀ args w, (callFunc 84 args).run Tryz.prog w = .ok (.enter 84 args) w := enters_of Tryz.func84 (by kernel_rfl) rfl
theorem ent_meets1 : ∀ args w, (callFunc 86 args).run Tryz.prog w = .ok (.enter 86 args) w := enters_of Tryz.func86 (by kernel_rfl) rfl
theorem ent_meets2 : ∀ args w, (callFunc 87 args).run Tryz.prog w = .ok (.enter 87 args) w := enters_of Tryz.func87 (by kernel_rfl) rfl
end Fi
end Go.Proofs.YtdbpfbokfmpgcaaGreat
namespace Go.Proofs.YtdbpfbokfmpgcaaGreat
open Go.RowKit Go.Shelf
set_option linter.unusedVariables false
set_option linter.unusedSimpArgs false
set_option linter.ambiguousOpen false
attribute [local go_sem] Oper.semAt_some
namespace Fi
open Mem Gr Gs
open So (vals)
theorem vals_low {base base' : Nat} {w : World} {VB : Nat} {V : List Nat} (h : Vals base w VB V) (hb : base' ≤ base) : Vals base' w VB V := by
  obtain ⟨h1, a, cp, h2, h3⟩ := h
  exact ⟨Nat.le_trans hb h1, a, cp, h2, own_mono h3 hb⟩
theorem vals_kd {base : Nat} {w w' : World} {VB : Nat} {V : List Nat} (h : Vals base w VB V) (hk : Keeps (fun _ => False) w w') : Vals base w' VB V := by
  obtain ⟨h1, a, cp, h2, h3⟩ := h
  exact ⟨h1, a, cp, h2.keeps hk (fun h => h), owns_keeps h3 hk (fun _ _ h => h)⟩
/-- what a walk that is handed to those is worth: it hands out, in the end, the number of every box that Q holds of -/
def Cand (w : World) (B off r : Nat) (L : List (Nat × Bx)) (Q : Bx → Prop) (tv : Value) : Prop :=
  ∀ W, Keeps (fun _ => False) w W → ∀ tf tb tk, (∀ args w, (callFunc tf args).run Tryz.prog w = .ok (.enter tf args) w) → Takes W tf tb tk → (∀ b, Right b → tk b = true → Q b) →
    Calls Tryz.prog 75 #[.pointer (some ⟨B, off, none⟩), tv, .func (.func tf) #[] tb] W (TellA L (fun b => tk b = true) W)
theorem Cand.kd {w w' : World} {B off r : Nat} {L : List (Nat × Bx)} {Q : Bx → Prop} {tv : Value} (h : Cand w B off r L Q tv) (k : Keeps (fun _ => False) w w') : Cand w' B off r L Q tv := fun W k' => h W (k.trans k')
/-- what a closure that takes is worth -/
def Pick (w : World) (Q : Bx → Prop) (v : Value) : Prop :=
  ∃ tf tb tk, v = .func (.func tf) #[] tb ∧ (∀ args w, (callFunc tf args).run Tryz.prog w = .ok (.enter tf args) w) ∧ Takes w tf tb tk ∧ ∀ b, Right b → (tk b = true ↔ Q b)
def tkC (px py qx qy : Int) (b : Bx) : Prop := On px py ∧ On qx qy ∧ meetsP px py qx qy b
theorem pick_covers (px py : Int) (w : World) : Calls Tryz.prog 77 #[.agg #[.int .i32 px, .int .i32 py]] w fun e w' => ∃ v, e = .returned v ∧ Keeps (fun _ => False) w w' ∧ Pick w' (coversP px py) v := by
  refine (covers_t px py w).mono ?_
  rintro e w' ⟨rfl, rfl⟩
  exact ⟨_, rfl, (Keeps.refl _ w).alloc _, _, _, _, rfl, ent_covers, covers_takes px py _ _ (Blk.new w 37 [.int .i32 px, .int .i32 py]), fun b _ => by simp⟩
theorem pick_meets (px py qx qy : Int) (w : World) : Calls Tryz.prog 78 #[.agg #[.int .i32 px, .int .i32 py], .agg #[.int .i32 qx, .int .i32 qy]] w fun e w' => ∃ v, e = .returned v ∧ Keeps (fun _ => False) w w' ∧ Pick w' (tkC px py qx qy) v := by
  by_cases hm : On px py ∧ On qx qy
  · refine (meets_on px py qx qy hm.1 hm.2 w).mono ?_
    rintro e w' ⟨PB, QB, rfl, k, h1, h2⟩
    exact ⟨_, rfl, k, _, _, _, rfl, ent_meets2, meets_takes px py qx qy PB QB w' h1 h2 hm.1 hm.2, fun b _ => by simp [tkC, hm.1, hm.2]⟩
  · refine (meets_off px py qx qy hm w).mono ?_
    rintro e w' ⟨rfl, k⟩
    exact ⟨_, rfl, k, _, _, _, rfl, ent_meets1, meets_takes_off w', fun b _ => by simp [tkC]; intro h1 h2; exact absurd ⟨h1, h2⟩ hm⟩
section
variable {w : World} {B off r : Nat} {L : List (Nat × Bx)}
theorem Cand.tell {Q Q' : Bx → Prop} {tv pv : Value} (h : Cand w B off r L Q tv) (hp : Pick w Q' pv) (hL : OkL L) (hq : ∀ b, Right b → Q' b → Q b) : Calls Tryz.prog 75 #[.pointer (some ⟨B, off, none⟩), tv, pv] w (TellA L Q' w) := by
  obtain ⟨tf, tb, tk, rfl, et, ht, hi⟩ := hp
  refine (h w (Keeps.refl _ w) tf tb tk et ht (fun b hb h => hq b hb ((hi b hb).1 h))).mono ?_
  intro e w' h
  exact h.congr (fun id b hb => hi b (hL.right _ hb))
theorem cand_keys (hB : ScB w B off r) (hM : MapL kid w r (kvB L)) (hL : OkL L) : Calls Tryz.prog 76 #[.map (some r)] w fun e w' => ∃ v, e = .returned v ∧ Keeps (fun _ => False) w w' ∧ Cand w' B off r L (fun _ => True) v := by
  refine (keys_t r w).mono ?_
  rintro e w' ⟨rfl, rfl⟩
  have ka := (Keeps.refl (fun _ => False) w).alloc (.cells #[.map (some r)] 60)
  exact ⟨_, rfl, ka, fun W k tf tb tk et ht _ => those_keys (hB.kd (ka.trans k)) (hM.keeps (ka.trans k) (fun h => h)) hL _ ((Blk.new w 60 [.map (some r)]).keeps k (fun h => h)) tf tb tk et ht⟩
set_option maxHeartbeats 4000000 in
theorem scan_at (hB : ScB w B off r) (hM : MapL kid w r (kvB L)) (hL : OkL L) (px py : Int) : Calls Tryz.prog 70 #[.pointer (some ⟨B, off, none⟩), .agg #[.int .i32 px, .int .i32 py]] w (TellA L (coversP px py) w) := by
  have k1 : Keeps (fun _ => False) w (w.alloc (.cells #[.int .i32 px, .int .i32 py] 37)) := by (repeat (first | exact Keeps.refl _ _ | refine Keeps.alloc ?_ _ | refine Keeps.drew ?_))
  have HSN := Lib.hid (show ∀ W', Keeps (fun _ => False) (w.alloc (.cells #[.int .i32 px, .int .i32 py] 37)) W' → (W'.cell? ⟨B, off, none⟩ = some (.map (some r)) ∧ ∀ i : Nat, W'.cell? ⟨w.heap.size, i, none⟩ = ([.int .i32 px, .int .i32 py] : List Value)[i]?) from fun W' hk => ⟨(hB.kd (k1.trans hk)).cell, ((Blk.new w 37 [.int .i32 px, .int .i32 py]).keeps hk (fun h => h)).cell⟩)
  have HC := Lib.hid (fun W' (hk : Keeps (fun _ => False) (w.alloc (.cells #[.int .i32 px, .int .i32 py] 37)) W') => cand_keys (hB.kd (k1.trans hk)) (hM.keeps (k1.trans hk) (fun h => h)) hL)
  have HT := Lib.hid (fun W' tv pv (h : Cand W' B off r L (fun _ => True) tv) (hp : Pick W' (coversP px py) pv) => h.tell hp hL (fun _ _ _ => trivial))
  have HK := Lib.hid k1
  clear hB hM hL k1
  go_enter Tryz.func70, Tryz.ntmps70
  go_wp2
  go_region_held3 (fun W => (W.cell? ⟨B, off, none⟩ = some (.map (some r)) ∧ ∀ i : Nat, W.cell? ⟨w.heap.size, i, none⟩ = ([.int .i32 px, .int .i32 py] : List Value)[i]?)) (first | with_reducible assumption | exact HSN.out _ (by (first | exact HK7.out | exact HK6.out | exact HK5.out | (refine HK7.out.trans ?_; (repeat (first | exact Keeps.refl _ _ | refine Keeps.alloc ?_ _ | refine Keeps.drew ?_))) | (refine HK6.out.trans ?_; (repeat (first | exact Keeps.refl _ _ | refine Keeps.alloc ?_ _ | refine Keeps.drew ?_))) | (refine HK5.out.trans ?_; (repeat (first | exact Keeps.refl _ _ | refine Keeps.alloc ?_ _ | refine Keeps.drew ?_))) | (repeat (first | exact Keeps.refl _ _ | refine Keeps.alloc ?_ _ | refine Keeps.drew ?_))))) (first
    | (go_at_call 76; (with_reducible refine (HC.out _ (by (first | exact HK7.out | exact HK6.out | exact HK5.out | (refine HK7.out.trans ?_; (repeat (first | exact Keeps.refl _ _ | refine Keeps.alloc ?_ _ | refine Keeps.drew ?_))) | (refine HK6.out.trans ?_; (repeat (first | exact Keeps.refl _ _ | refine Keeps.alloc ?_ _ | refine Keeps.drew ?_))) | (refine HK5.out.trans ?_; (repeat (first | exact Keeps.refl _ _ | refine Keeps.alloc ?_ _ | refine Keeps.drew ?_))) | (repeat (first | exact Keeps.refl _ _ | refine Keeps.alloc ?_ _ | refine Keeps.drew ?_))))).mono ?_); rintro e w5 ⟨tv, rfl, k5, hc⟩; have HK5 := Lib.hid (show Keeps (fun _ => False) (w.alloc (.cells #[.int .i32 px, .int .i32 py] 37)) w5 from Keeps.trans (by (repeat (first | exact Keeps.refl _ _ | refine Keeps.alloc ?_ _ | refine Keeps.drew ?_))) k5); have HC5 := Lib.hid hc; clear k5 hc)
    | (go_at_call 77; (with_reducible refine (pick_covers _ _ _).mono ?_); rintro e w6 ⟨pv, rfl, k6, hp⟩; have HQ6 := Lib.hid (show Keeps (fun _ => False) w5 w6 from Keeps.trans (by (repeat (first | exact Keeps.refl _ _ | refine Keeps.alloc ?_ _ | refine Keeps.drew ?_))) k6); have HK6 := Lib.hid (HK5.out.trans HQ6.out); have HP6 := Lib.hid hp; clear k6 hp)
    | (go_at_call 75; (with_reducible refine (HT.out _ _ _ (HC5.out.kd HQ6.out) HP6.out).mono ?_); rintro e w7 ⟨VB, V, rfl, k7, hv, ha⟩; have HK7 := Lib.hid (HK6.out.trans k7); have HV := Lib.hid (And.intro hv ha); clear k7 hv ha))
  all_goals
    go_wp2
    go_ret
    exact ⟨_, _, rfl, HK.out.trans (by (first | exact HK7.out | exact HK6.out | exact HK5.out | (refine HK7.out.trans ?_; (repeat (first | exact Keeps.refl _ _ | refine Keeps.alloc ?_ _ | refine Keeps.drew ?_))) | (refine HK6.out.trans ?_; (repeat (first | exact Keeps.refl _ _ | refine Keeps.alloc ?_ _ | refine Keeps.drew ?_))) | (refine HK5.out.trans ?_; (repeat (first | exact Keeps.refl _ _ | refine Keeps.alloc ?_ _ | refine Keeps.drew ?_))) | (repeat (first | exact Keeps.refl _ _ | refine Keeps.alloc ?_ _ | refine Keeps.drew ?_)))), vals_low HV.out.1 (HK.out.trans HK6.out).size, HV.out.2⟩
set_option maxHeartbeats 4000000 in
theorem scan_cross (hB : ScB w B off r) (hM : MapL kid w r (kvB L)) (hL : OkL L) (px py qx qy : Int) : Calls Tryz.prog 71 #[.pointer (some ⟨B, off, none⟩), .agg #[.int .i32 px, .int .i32 py], .agg #[.int .i32 qx, .int .i32 qy]] w (TellA L (tkC px py qx qy) w) := by
  have k1 : Keeps (fun _ => False) w ((w.alloc (.cells #[.int .i32 px, .int .i32 py] 37)).alloc (.cells #[.int .i32 qx, .int .i32 qy] 37)) := by (repeat (first | exact Keeps.refl _ _ | refine Keeps.alloc ?_ _ | refine Keeps.drew ?_))
  have bq := Blk.new (w.alloc (.cells #[.int .i32 px, .int .i32 py] 37)) 37 [.int .i32 qx, .int .i32 qy]
  simp only [World.size_alloc] at bq
  have HSN := Lib.hid (show ∀ W', Keeps (fun _ => False) ((w.alloc (.cells #[.int .i32 px, .int .i32 py] 37)).alloc (.cells #[.int .i32 qx, .int .i32 qy] 37)) W' → (W'.cell? ⟨B, off, none⟩ = some (.map (some r)) ∧ (∀ i : Nat, W'.cell? ⟨w.heap.size, i, none⟩ = ([.int .i32 px, .int .i32 py] : List Value)[i]?) ∧ ∀ i : Nat, W'.cell? ⟨w.heap.size + 1, i, none⟩ = ([.int .i32 qx, .int .i32 qy] : List Value)[i]?) from fun W' hk => ⟨(hB.kd (k1.trans hk)).cell, (((Blk.new w 37 [.int .i32 px, .int .i32 py]).alloc _).keeps hk (fun h => h)).cell, (bq.keeps hk (fun h => h)).cell⟩)
  have HC := Lib.hid (fun W' (hk : Keeps (fun _ => False) ((w.alloc (.cells #[.int .i32 px, .int .i32 py] 37)).alloc (.cells #[.int .i32 qx, .int .i32 qy] 37)) W') => cand_keys (hB.kd (k1.trans hk)) (hM.keeps (k1.trans hk) (fun h => h)) hL)
  have HT := Lib.hid (fun W' tv pv (h : Cand W' B off r L (fun _ => True) tv) (hp : Pick W' (tkC px py qx qy) pv) => h.tell hp hL (fun _ _ _ => trivial))
  have HK := Lib.hid k1
  clear hB hM hL k1 bq
  go_enter Tryz.func71, Tryz.ntmps71
  go_wp2
  go_region_held3 (fun W => (W.cell? ⟨B, off, none⟩ = some (.map (some r)) ∧ (∀ i : Nat, W.cell? ⟨w.heap.size, i, none⟩ = ([.int .i32 px, .int .i32 py] : List Value)[i]?) ∧ ∀ i : Nat, W.cell? ⟨w.heap.size + 1, i, none⟩ = ([.int .i32 qx, .int .i32 qy] : List Value)[i]?)) (first | with_reducible assumption | exact HSN.out _ (by (first | exact HK7.out | exact HK6.out | exact HK5.out | (refine HK7.out.trans ?_; (repeat (first | exact Keeps.refl _ _ | refine Keeps.alloc ?_ _ | refine Keeps.drew ?_))) | (refine HK6.out.trans ?_; (repeat (first | exact Keeps.refl _ _ | refine Keeps.alloc ?_ _ | refine Keeps.drew ?_))) | (refine HK5.out.trans ?_; (repeat (first | exact Keeps.refl _ _ | refine Keeps.alloc ?_ _ | refine Keeps.drew ?_))) | (repeat (first | exact Keeps.refl _ _ | refine Keeps.alloc ?_ _ | refine Keeps.drew ?_))))) (first
    | (go_at_call 76; (with_reducible refine (HC.out _ (by (first | exact HK7.out | exact HK6.out | exact HK5.out | (refine HK7.out.trans ?_; (repeat (first | exact Keeps.refl _ _ | refine Keeps.alloc ?_ _ | refine Keeps.drew ?_))) | (refine HK6.out.trans ?_; (repeat (first | exact Keeps.refl _ _ | refine Keeps.alloc ?_ _ | refine Keeps.drew ?_))) | (refine HK5.out.trans ?_; (repeat (first | exact Keeps.refl _ _ | refine Keeps.alloc ?_ _ | refine Keeps.drew ?_))) | (repeat (first | exact Keeps.refl _ _ | refine Keeps.alloc ?_ _ | refine Keeps.drew ?_))))).mono ?_); rintro e w5 ⟨tv, rfl, k5, hc⟩; have HK5 := Lib.hid (show Keeps (fun _ => False) ((w.alloc (.cells #[.int .i32 px, .int .i32 py] 37)).alloc (.cells #[.int .i32 qx, .int .i32 qy] 37)) w5 from Keeps.trans (by (repeat (first | exact Keeps.refl _ _ | refine Keeps.alloc ?_ _ | refine Keeps.drew ?_))) k5); have HC5 := Lib.hid hc; clear k5 hc)
    | (go_at_call 78; (with_reducible refine (pick_meets _ _ _ _ _).mono ?_); rintro e w6 ⟨pv, rfl, k6, hp⟩; have HQ6 := Lib.hid (show Keeps (fun _ => False) w5 w6 from Keeps.trans (by (repeat (first | exact Keeps.refl _ _ | refine Keeps.alloc ?_ _ | refine Keeps.drew ?_))) k6); have HK6 := Lib.hid (HK5.out.trans HQ6.out); have HP6 := Lib.hid hp; clear k6 hp)
    | (go_at_call 75; (with_reducible refine (HT.out _ _ _ (HC5.out.kd HQ6.out) HP6.out).mono ?_); rintro e w7 ⟨VB, V, rfl, k7, hv, ha⟩; have HK7 := Lib.hid (HK6.out.trans k7); have HV := Lib.hid (And.intro hv ha); clear k7 hv ha))
  all_goals
    go_wp2
    go_ret
    exact ⟨_, _, rfl, HK.out.trans (by (first | exact HK7.out | exact HK6.out | exact HK5.out | (refine HK7.out.trans ?_; (repeat (first | exact Keeps.refl _ _ | refine Keeps.alloc ?_ _ | refine Keeps.drew ?_))) | (refine HK6.out.trans ?_; (repeat (first | exact Keeps.refl _ _ | refine Keeps.alloc ?_ _ | refine Keeps.drew ?_))) | (refine HK5.out.trans ?_; (repeat (first | exact Keeps.refl _ _ | refine Keeps.alloc ?_ _ | refine Keeps.drew ?_))) | (repeat (first | exact Keeps.refl _ _ | refine Keeps.alloc ?_ _ | refine Keeps.drew ?_)))), vals_low HV.out.1 (HK.out.trans HK6.out).size, HV.out.2⟩
end
end Fi
end Go.Proofs.YtdbpfbokfmpgcaaGreat
