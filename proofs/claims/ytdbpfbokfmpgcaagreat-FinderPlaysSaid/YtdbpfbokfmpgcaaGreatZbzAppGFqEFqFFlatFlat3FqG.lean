/-
AppG: one element more on a slice of one's own, as far as the language's own growth goes.
FqE: what is kept, and what a round of FinderPlays leaves: no code in sight.
FqF: FinderPlays, walked. (Printed by wip/gen_fqf.py.)
Flat: what came in of a type whose leaves are all whole numbers, opened to its cells.
Flat3: a slice of flat structs that came in, opened.
FqG: FinderPlays: the script that came in, opened.
-/
import Derived.Test.YtdbpfbokfmpgcaaGreatZaaMemIterTreeAHeldGrowIter
import Derived.Test.YtdbpfbokfmpgcaaGreatZbyFqD
import Derived.WalkKit
import Derived.ProofKit
import Derived.OpenShut
import Derived.ChangeOld
import Derived.Below
import Derived.ChangeArms
import Derived.SizedLaws
set_option linter.unusedVariables false
set_option linter.unusedSimpArgs false
set_option linter.ambiguousOpen false
set_option maxHeartbeats 16000000
set_option maxRecDepth 100000
attribute [local go_sem] Go.Oper.semAt_some
namespace Go.Proofs.YtdbpfbokfmpgcaaGreat
theorem ZAc {p : Prop} (h : p := by rw [hW12, hB12]; exact Blk.new wr 41 [.int .i64 x.do_, .int .u32 (x.id : Int), .int .i32 x.b.x0, .int .i32 x.b.y0, .int .i32 x.b.x1, .int .i32 x.b.y1, .int .i32 x.px, .int .i32 x.py, .int .i32 x.qx, .int .i32 x.qy, .int .i64 x.stop]) : p := h
open Go.RowKit
namespace Mem
theorem own_fresh (w : World) (base : Nat) (e : TypeId) (size k cap : Nat) (ys zs : List Value) (hbase : base ≤ w.heap.size) (hk : ys.length = k * size) (hcap : k ≤ cap) (hcm : cap ≤ maxLen) (hz : zs.length = (cap - k) * size) :
 (w.drew.alloc (.cells (ys ++ zs).toArray e)).ownsRow base e size (.slice (some ⟨w.heap.size, 0, none⟩) k cap) k ys := by
 refine ⟨hk, .inr ⟨w.heap.size, cap, (ys ++ zs).toArray, rfl, hbase, heap_alloc_new w.drew _, hcap, hcm, ?_, ?_⟩⟩
 ·rw [List.size_toArray, List.length_append, hk, hz, ← Nat.add_mul]
  congr 1; omega
 ·rw [List.toList_toArray, ← hk, List.take_left]
theorem run_app_g {P : Program} (w : World) (base : Nat) (t ty e : TypeId) (i : TypeInfo) (z : Value) (size : Nat) (ht : P.underlying t = some (.slice e)) (hi : P.info? e = some i) (hz : i.zero = some z)
 (hsize : i.size = size) (hzs : z.cells.size = size) (hsz : 0 < size) (la : Option Addr) (lc n : Nat) (xs : List Value) (hown : w.ownsRow base e size (.slice la n lc) n xs)
 (a : Addr) (c : Nat) (news : List Value) (hl : news.length = size) (hnews : ∀ j u, news[j]? = some u → w.cell? (a.add j) = some u) (h1 : ∀ u ∈ news, u.oneCell' = true)
 (h63 : n + 1 ≤ maxLen) (hb1 : i.bytes ≤ 281474976710656) (hfit : Builtin.nextslicecap (n + 1) n * i.bytes ≤ 281474976710656) (hbase : base ≤ w.heap.size) :
 ∃ g' cap' w', (Builtin.append_ #[t, t] ty #[.slice la n lc, .slice (some a) 1 c]).run P w = .ok (.slice (some ⟨g', 0, none⟩) (n + 1) cap') w' ∧ w'.ownsRow base e size (.slice (some ⟨g', 0, none⟩) (n + 1) cap') (n + 1) (xs ++ news) ∧ w.grownBy w' (Value.slice la n lc).ownBlock ∧ (la = some ⟨g', 0, none⟩ ∨ g' = w.heap.size) := by
 subst hsize
 have hsmall : n + 1 ≤ 9223372036854775807 := by simp only [maxLen] at h63; omega
 have hl1 : news.length = 1 * i.size := by rw [hl, Nat.one_mul]
 have hlen : (xs ++ news).length = (n + 1) * i.size := by rw [List.length_append, hown.1, hl1, Nat.add_mul]
 have hzl : ∀ k, (Builtin.zeroCells z.cells k).toList.length = k * i.size := fun k => by rw [Array.length_toList, size_zeroCells, hzs]
 rcases hown.2 with ⟨e0, -⟩ | ⟨g, cap, cur, e0, hbg, hg, hnc, hcm, hcs, htake⟩
 ·simp only [Value.slice.injEq] at e0
  obtain ⟨rfl, rfl, rfl⟩ := e0
  obtain rfl : xs = [] := List.eq_nil_of_length_eq_zero (by simpa using hown.1)
  have hr := run_append_nil (P := P) w t ty e i z ht hi hz a 1 c news hl1 hnews Z8 Z8 Z8
  have ho := own_fresh w base e i.size 1 (grownCap w 1 0 e) news (Builtin.zeroCells z.cells (grownCap w 1 0 e - 1)).toList hbase hl1 (grownCap_ge w 1 0 e) (grownCap_le_maxLen w 1 0 e h63) (hzl _)
  refine ⟨_, _, _, hr, ?_, ⟨rfl, rfl, rfl, ZA7, fun k hk _ => Below.heap_alloc w.drew _ k hk⟩, .inr rfl⟩
  have ea : news.toArray ++ Builtin.zeroCells z.cells (grownCap w 1 0 e - 1) = (news ++ (Builtin.zeroCells z.cells (grownCap w 1 0 e - 1)).toList).toArray := by simp
  rw [ea]; exact ho
 ·simp only [Value.slice.injEq] at e0
  obtain ⟨rfl, -, rfl⟩ := e0
  by_cases hroom : n + 1 ≤ lc
  ·have hfit2 : n * i.size + news.length ≤ cur.size := by rw [hl1, hcs, ← Nat.add_mul]; exact Nat.mul_le_mul_right _ hroom
   have hr := run_append_room (P := P) w t ty e i ht hi g n lc cur hg a 1 c news hl1 hnews h1 hroom hfit2
   refine ⟨_, _, _, hr, ⟨hlen, .inr ⟨g, lc, _, rfl, hbg, setRow_heap w g cur _ e _ hg, hroom, hcm, ?_, ?_⟩⟩, ⟨rfl, rfl, rfl, ZA7, fun k _ hk => setRow_other w g k _ (fun e => hk (by simp [Value.ownBlock, e]))⟩, .inl rfl⟩
   ·simp only [List.size_toArray, List.length_append, List.length_take, List.length_drop, Array.length_toList]
    omega
   ·rw [List.toList_toArray, htake, ← hlen, List.take_left]
  ·obtain rfl : n = lc := by omega
   have hr := run_append_grow (P := P) w t ty e i z ht hi hz ⟨g, 0, none⟩ n n xs hown.1 (hown.cells (g := g) rfl) a 1 c news hl1 hnews Z8 Z8 hfit
   have ho := own_fresh w base e i.size (n + 1) (grownCap w (n + 1) n e) (xs ++ news) (Builtin.zeroCells z.cells (grownCap w (n + 1) n e - (n + 1))).toList hbase hlen (grownCap_ge w (n + 1) n e) (grownCap_le_maxLen w (n + 1) n e h63) (hzl _)
   refine ⟨_, _, _, hr, ?_, ⟨rfl, rfl, rfl, ZA7, fun k hk _ => Below.heap_alloc w.drew _ k hk⟩, .inr rfl⟩
   have ea : xs.toArray ++ news.toArray ++ Builtin.zeroCells z.cells (grownCap w (n + 1) n e - (n + 1)) = (xs ++ news ++ (Builtin.zeroCells z.cells (grownCap w (n + 1) n e - (n + 1))).toList).toArray := by simp
   rw [ea]; exact ho
theorem next_le (n : Nat) : Builtin.nextslicecap (n + 1) n ≤ n + n / 4 + 512 := by
 unfold Builtin.nextslicecap
 split
 ·omega
 ·split
  ·omega
  ·unfold Builtin.growBy
   rw [if_neg Z8]
   unfold Builtin.growBy
   rw [if_pos Z8]
   omega
theorem step_app_g {P : Program} {T e : TypeId} {α : Type} {f : α → List Value} {size by_ : Nat} (hT : P.underlying T = some (.slice e)) (hinfo : ∃ i z, P.info? e = some i ∧ i.zero = some z ∧ i.size = size ∧ i.bytes = by_ ∧ z.cells.size = size) (hpos : 0 < size) (hlen : ∀ x, (f x).length = size) (hone : ∀ x, ∀ u ∈ f x, u.oneCell' = true)
 {o : Oper} {a : Act} {w : World} {K : Act → World → Prop} {Q : Exit → Act → World → Prop} (s x : Operand)
 (ho : o.op = .call { callee := .builtin .append, args := #[s, x], argTypes := #[T, T] }) (base : Nat) (l : List α) (n : Nat) (la : Option Addr) (lc : Nat) (hs : a.eval s = .slice la n lc) (hO : w.ownsRow base e size (.slice la n lc) n (l.flatMap f))
 (p : α) (nb : Nat) (hx : a.eval x = .slice (some ⟨nb, 0, none⟩) 1 1) (hnew : ∀ j u, (f p)[j]? = some u → w.cell? ((⟨nb, 0, none⟩ : Addr).add j) = some u) (hl : n + 1 ≤ maxLen) (hb1 : by_ ≤ 281474976710656) (hfit : (n + n / 4 + 512) * by_ ≤ 281474976710656) (hb : base ≤ w.heap.size)
 (h : ∀ g' cap' w', w'.ownsRow base e size (.slice (some ⟨g', 0, none⟩) (n + 1) cap') (n + 1) ((l ++ [p]).flatMap f) → w.grownBy w' (Value.slice la n lc).ownBlock → (la = some ⟨g', 0, none⟩ ∨ g' = w.heap.size) → K (a.put o.dst (.slice (some ⟨g', 0, none⟩) (n + 1) cap')) w') :
 Oper.wp P o a w K Q := by
 obtain ⟨i, z, hi, hz, h1, h2, h3⟩ := hinfo
 subst h2
 obtain ⟨g', cap', w', hr, hown, hgrow, hat⟩ := run_app_g (P := P) w base T o.type e i z size hT hi hz h1 h3 hpos la lc n (l.flatMap f) hO ⟨nb, 0, none⟩ 1 (f p) (hlen p) hnew (hone p) hl hb1 (Nat.le_trans (Nat.mul_le_mul_right _ (next_le n)) hfit) hb
 unfold Oper.wp execOp
 simp only [ho, resolve, invoke, builtin, Sem.run_bind, Sem.run_pure, Result.andThen_ok, List.map_toArray, List.map_cons, List.map_nil, hs, hx, hr]
 have e2 : (l ++ [p]).flatMap f = l.flatMap f ++ f p := by simp
 exact h g' cap' w' (by rw [e2]; exact hown) hgrow hat
end Mem
open Go.RowKit Go.Shelf
namespace Fq
open Mem Gr Gs Fi
open Gx (insB Rise)
structure KIt where
 vb : Nat
 va : Option Addr
 vc : Nat
 oa : Option Addr
 oc : Nat
 V : List Nat
def kcl (x : KIt) : List Value := [.func (.func 92) #[] #[.pointer (some ⟨x.vb, 0, none⟩)], .slice x.oa x.V.length x.oc]
theorem kInfo : (Tryz.prog.info? 48).map (fun i => (i.zero, i.size, i.bytes)) = some (some (.agg #[.nilFunc, .slice none 0 0]), 2, 32) := by kernel_rfl
theorem kInf : ∃ i z, Tryz.prog.info? 48 = some i ∧ i.zero = some z ∧ i.size = 2 ∧ i.bytes = 32 ∧ z.cells.size = 2 := by
 obtain ⟨i0, hi0, hz0, hz1, hz2⟩ := info_parts kInfo
 exact ⟨i0, _, hi0, hz0, hz1, hz2, rfl⟩
theorem kOne : ∀ x, ∀ u ∈ kcl x, u.oneCell' = true := fun x u hu => by simp [kcl] at hu; rcases hu with rfl | rfl <;> rfl
structure KOk (w : World) (F : Nat → Prop) (R : Nat) (x : KIt) : Prop where
 vb : Blk w x.vb 45 [.slice x.va x.V.length x.vc]
 vrow : w.ownsRow 0 35 1 (.slice x.va x.V.length x.vc) x.V.length (u32v x.V)
 orow : w.ownsRow 0 35 1 (.slice x.oa x.V.length x.oc) x.V.length (u32v x.V)
 len : x.V.length ≤ 65536
 apart : ∀ k, (k = x.vb ∨ (Value.slice x.va x.V.length x.vc).ownBlock = some k ∨ (Value.slice x.oa x.V.length x.oc).ownBlock = some k) → k < w.heap.size ∧ ¬ F k ∧ k ≠ R
section
variable {w w' : World} {F F' : Nat → Prop} {R : Nat} {x : KIt}
theorem KOk.vals (h : KOk w F R x) : Vals 0 w x.vb x.V := ⟨Nat.zero_le _, x.va, x.vc, h.vb, h.vrow⟩
theorem KOk.step (h : KOk w F R x) (hk : Keeps (fun k => F k ∨ k = R) w w') (hF : ∀ k, F' k → F k ∨ w.heap.size ≤ k) : KOk w' F' R x := by
 have ap : ∀ k, (k = x.vb ∨ (Value.slice x.va x.V.length x.vc).ownBlock = some k ∨ (Value.slice x.oa x.V.length x.oc).ownBlock = some k) → ¬ (F k ∨ k = R) := fun k hk e => by
  obtain ⟨h1, h2, h3⟩ := h.apart k hk
  exact e.elim h2 h3
 refine ⟨h.vb.keeps hk (ap _ (.inl rfl)), owns_keeps h.vrow hk (fun k e => ap k (.inr (.inl e))), owns_keeps h.orow hk (fun k e => ap k (.inr (.inr e))), h.len, fun k hk' => ?_⟩
 obtain ⟨h1, h2, h3⟩ := h.apart k hk'
 refine ⟨Nat.lt_of_lt_of_le h1 hk.size, fun e => ?_, h3⟩
 rcases hF k e with e | e
 ·exact h2 e
 ·omega
theorem KOk.row (h : KOk w F R x) {base n : Nat} {v : Value} {xs : List Value} (hO : w.ownsRow base 48 2 v n xs) (hk : Keeps (fun k => v.ownBlock = some k) w w') : KOk w' F R x := by
 have hx : ∀ (m base : Nat) (u : Value) (ys : List Value), w.ownsRow base 35 1 u m ys → ∀ b, u.ownBlock = some b → ¬ v.ownBlock = some b := fun m base u ys hu b hb e => by
  rcases hu.2 with ⟨h0, _⟩ | ⟨g, cap, cur, hv, _, hh, _⟩
  ·rw [h0] at hb; cases hb
  ·rw [hv] at hb
   have e2 : g = b := by simpa [Value.ownBlock] using hb
   subst e2
   have hB : Blk w g 35 cur.toList := by unfold Blk; simpa using hh
   exact own_ne hO hB ZAH e.symm
 refine ⟨h.vb.keeps hk (fun e => own_ne hO h.vb ZAH e.symm), owns_keeps h.vrow hk (hx _ _ _ _ h.vrow), owns_keeps h.orow hk (hx _ _ _ _ h.orow), h.len, fun k hk' => ?_⟩
 obtain ⟨h1, h2, h3⟩ := h.apart k hk'
 exact ⟨Nat.lt_of_lt_of_le h1 hk.size, h2, h3⟩
end
theorem pr_row {w w' : World} {v : Value} {F : Nat → Prop} {L Lr : List (Nat × Bx)} {R : Nat} (h : Pr w v F L R Lr) {base m : Nat} {u : Value} {xs : List Value} (hO : w.ownsRow base 48 2 u m xs) (hoff : ∀ k, u.ownBlock = some k → ¬ F k) (hk : Keeps (fun k => u.ownBlock = some k) w w') :
 Pr w' v F L R Lr ∧ ∀ k, u.ownBlock = some k → k ≠ R := by
 obtain ⟨a, cp, h3, h4⟩ := h.rf
 have hnR : ¬ u.ownBlock = some R := fun e => own_ne hO h3.blk ZAH e.symm
 have hr : RF w' R a cp Lr := h3.keeps hk hnR (fun k hk' e => by
  rcases h3.own.2 with ⟨h0, _⟩ | ⟨g, cap, cur, hv, _, hh, _⟩
  ·rw [h0] at hk'; cases hk'
  ·rw [hv] at hk'
   have e2 : g = k := by simpa [Value.ownBlock] using hk'
   subst e2
   have hB : Blk w g 77 cur.toList := by unfold Blk; simpa using hh
   exact own_ne hO hB ZAH e.symm)
 exact ⟨⟨h.fd.keeps hk (fun x hF e => hoff x e hF), h.ok, ⟨a, cp, hr, h4⟩, h.off, h.rise, h.mem⟩, fun k hk' e => hnR (e ▸ hk')⟩
structure MI (w0 : World) (v : Value) (R b1 : Nat) (L Lr : List (Nat × Bx)) (F : Nat → Prop) (l : List KIt) (la : Option Addr) (lc : Nat) (W : World) : Prop where
 pr : Pr W v F L R Lr
 own : W.ownsRow b1 48 2 (.slice la l.length lc) l.length (l.flatMap kcl)
 ok : ∀ x ∈ l, KOk W F R x
 off : ∀ k, (Value.slice la l.length lc).ownBlock = some k → ¬ F k
 fresh : ∀ k, F k → w0.heap.size ≤ k
 freshR : w0.heap.size ≤ R
 freshB : w0.heap.size ≤ b1
 keep : Keeps (fun k => w0.heap.size ≤ k) w0 W
section
variable {w0 W W' : World} {v : Value} {R b1 : Nat} {L Lr : List (Nat × Bx)} {F : Nat → Prop} {l : List KIt} {la : Option Addr} {lc : Nat}
theorem MI.kd (h : MI w0 v R b1 L Lr F l la lc W) (hk : Keeps (fun _ => False) W W') : MI w0 v R b1 L Lr F l la lc W' :=
 ⟨h.pr.kd hk, owns_keeps h.own hk (fun _ _ h => h), fun x hx => (h.ok x hx).step (kf hk) (fun _ h => .inl h), h.off, h.fresh, h.freshR, h.freshB, h.keep.then hk (fun _ _ h => h.elim)⟩
theorem MI.app (h : MI w0 v R b1 L Lr F l la lc W) {x : KIt} {g' cap' m : Nat} (hm : m = (l ++ [x]).length) (hO : W'.ownsRow b1 48 2 (.slice (some ⟨g', 0, none⟩) m cap') m ((l ++ [x]).flatMap kcl)) (hx : KOk W F R x)
 (hk : Keeps (fun k => (Value.slice la l.length lc).ownBlock = some k) W W') (hat : la = some ⟨g', 0, none⟩ ∨ g' = W.heap.size) : MI w0 v R b1 L Lr F (l ++ [x]) (some ⟨g', 0, none⟩) cap' W' := by
 subst hm
 obtain ⟨h1, h2⟩ := pr_row h.pr h.own h.off hk
 refine ⟨h1, hO, fun y hy => ?_, fun k e => ?_, h.fresh, h.freshR, h.freshB, h.keep.then hk (fun k _ e => ?_)⟩
 ·rcases List.mem_append.1 hy with hy | hy
  ·exact (h.ok y hy).row h.own hk
  ·rw [List.mem_singleton.1 hy]; exact hx.row h.own hk
 ·have e2 : g' = k := by simpa [Value.ownBlock] using e
  subst e2
  rcases hat with rfl | rfl
  ·exact h.off g' rfl
  ·exact fun hF => Nat.lt_irrefl _ (h.pr.fd.inb _ hF)
 ·have := (h.own.lt k e).1; have := h.freshB; omega
theorem MI.step (h : MI w0 v R b1 L Lr F l la lc W) (hs : StepD v R F W W') : ∃ L' Lr' F', MI w0 v R b1 L' Lr' F' l la lc W' := by
 obtain ⟨L', F', Lr', h1, h2, h3⟩ := hs
 obtain ⟨_, h5⟩ := pr_row h.pr h.own h.off (Keeps.refl _ W)
 refine ⟨L', Lr', F', h1, owns_keeps h.own h2 (fun k hk e => ?_), fun x hx => (h.ok x hx).step h2 h3, fun k hk e => ?_, fun k hk => ?_, h.freshR, h.freshB, h.keep.then h2 (fun k _ e => ?_)⟩
 ·exact e.elim (h.off k hk) (h5 k hk)
 ·rcases h3 k e with e | e
  ·exact h.off k hk e
  ·have := (h.own.lt k hk).2; omega
 ·rcases h3 k hk with e | e
  ·exact h.fresh k e
  ·have := h.keep.size; omega
 ·rcases e with e | e
  ·exact h.fresh k e
  ·rw [e]; exact h.freshR
theorem MI.taken (h : MI w0 v R b1 L Lr F l la lc W) {w1 w2 : World} {VB : Nat} {V : List Nat} {oa : Option Addr} {oc : Nat} {b : Nat} (hb : W.heap.size ≤ b) (h1 : Vals b w1 VB V) (hk2 : Keeps (fun _ => False) w1 w2) {b2 : Nat} (hb2 : W.heap.size ≤ b2)
 (hO : w2.ownsRow b2 35 1 (.slice oa V.length oc) V.length (u32v V)) (hl : V.length ≤ 65536) : ∃ va vc, KOk w2 F R ⟨VB, va, vc, oa, oc, V⟩ := by
 obtain ⟨hb0, va, vc, h2, h3⟩ := h1
 have hz := hk2.size
 have hRl : R < W.heap.size := h.pr.lt
 have key : ∀ k, W.heap.size ≤ k → k < w2.heap.size → k < w2.heap.size ∧ ¬ F k ∧ k ≠ R := fun k hk hk2 => ⟨hk2, fun e => by have := h.pr.fd.inb _ e; omega, Z8⟩
 refine ⟨va, vc, h2.keeps hk2 (fun h => h), own_mono (owns_keeps h3 hk2 (fun _ _ h => h)) (Nat.zero_le _), own_mono hO (Nat.zero_le _), hl, ?_⟩
 rintro k (rfl | e | e)
 ·exact key _ Z8 (by have := h2.lt; omega)
 ·have h4 := h3.lt k e
  exact key _ Z8 Z8
 ·have h4 := hO.lt k e
  exact key _ Z8 h4.2
end
def RowsX (w : World) (a : Option Addr) (rows : List Stp) : Prop := ∀ (i : Nat) t, rows[i]? = some t → t.id < 4294967296 ∧ ∃ g off, a = some ⟨g, off, none⟩ ∧ g < w.heap.size ∧ ∀ j u, t.cells[j]? = some u → w.cell? ⟨g, off + i * 11 + j, none⟩ = some u
theorem own_kcl {W : World} {b1 m : Nat} {la : Option Addr} {lc : Nat} {l : List KIt} (h : W.ownsRow b1 48 2 (.slice la m lc) m (l.flatMap kcl)) (hm : m = l.length) {j : Nat} {x : KIt} (hx : l[j]? = some x) :
 ∃ g, la = some ⟨g, 0, none⟩ ∧ W.cell? ⟨g, j * 2, none⟩ = some (.func (.func 92) #[] #[.pointer (some ⟨x.vb, 0, none⟩)]) ∧ W.cell? ⟨g, j * 2 + 1, none⟩ = some (.slice x.oa x.V.length x.oc) := by
 have hj : j < l.length := (List.getElem?_eq_some_iff.1 hx).1
 rcases h.2 with ⟨_, h0⟩ | ⟨g, cap, cur, hv, _, _, _⟩
 ·omega
 ·simp only [Value.slice.injEq] at hv
  have key : ∀ k u, k < 2 → (kcl x)[k]? = some u → W.cell? ⟨g, j * 2 + k, none⟩ = some u := fun k u hk hu => by
   have hfc := flat_cell (f := kcl) (fun x => rfl) l j k hk x hx
   have hcc := h.cells (g := g) (by rw [hv.1]; rfl) (j * 2 + k) u (by rw [hfc, hu])
   rw [Addr.add_mid, Nat.zero_add] at hcc
   exact hcc
  exact ⟨g, hv.1, key 0 _ ZAH rfl, key 1 _ ZAH rfl⟩
end Fq
open Go.RowKit Go.Shelf
namespace Fq
open Mem Gr Gs Fi
open Gx (insB Rise)
theorem fits_g (i s : Int) (w : World) : Calls Tryz.prog 6 #[.int .i64 i, .int .i64 s] w fun e w' => e = .returned (.bool (decide (0 ≤ i ∧ i ≤ 2 ∧ Size s))) ∧ w = w' := by
 have z := ffits11_t s
 obtain ⟨c, hc⟩ := ZE (decide (Size s))
 by_cases h1 : 0 ≤ i
 ·by_cases h2 : i ≤ 2
  ·have e : decide (0 ≤ i ∧ i ≤ 2 ∧ Size s) = c := by rw [hc]; simp [h1, h2]
   rw [e]
   simp only [← hc] at z
   clear hc e
   go_enter Tryz.func6, Tryz.ntmps6
   go_wp2_with (go_at_call 18; (with_reducible refine (z _).mono ?_); rintro e w4 ⟨rfl, rfl⟩)
   go_ret
   exact ⟨rfl, rfl⟩
  ·have e : decide (0 ≤ i ∧ i ≤ 2 ∧ Size s) = false := by simp [h2]
   rw [e]
   clear hc e z
   go_enter Tryz.func6, Tryz.ntmps6
   go_wp2
   go_ret
   exact ⟨rfl, rfl⟩
 ·have e : decide (0 ≤ i ∧ i ≤ 2 ∧ Size s) = false := by simp [h1]
  rw [e]
  clear hc e z
  go_enter Tryz.func6, Tryz.ntmps6
  go_wp2
  go_ret
  exact ⟨rfl, rfl⟩
theorem new_out (i s : Int) (hi : ¬ (0 ≤ i ∧ i ≤ 2)) (hs : Size s) (w : World) : Calls Tryz.prog 5 #[.int .i64 i, .int .i64 s] w fun e w' => e = .returned (.tuple #[.nilIface, .int .i64 2]) ∧ Keeps (fun _ => False) w w' := by
 have hmm := @run_makeMap Tryz.prog
 have e0 : (i == 0) = false := by simp; omega
 have e1 : (i == 1) = false := by simp; omega
 have e2 : (i == 2) = false := by simp; omega
 obtain ⟨h1, h2⟩ := hs
 clear hi
 exact Zx
theorem new_no (i s : Int) (h : ¬ (0 ≤ i ∧ i ≤ 2 ∧ Size s)) (w : World) : Calls Tryz.prog 5 #[.int .i64 i, .int .i64 s] w fun e w' => e = .returned (.tuple #[.nilIface, .int .i64 2]) ∧ Keeps (fun _ => False) w w' := by
 by_cases hs : Size s
 ·exact new_out i s (fun hi => h ⟨hi.1, hi.2, hs⟩) hs w
 ·exact new_bad i s hs w
theorem new_yes (i s : Int) (h : 0 ≤ i ∧ i ≤ 2 ∧ Size s) (w : World) : Calls Tryz.prog 5 #[.int .i64 i, .int .i64 s] w (NewP w) := by
 obtain ⟨h0, h2, hs⟩ := h
 have : i = 0 ∨ i = 1 ∨ i = 2 := by omega
 rcases this with rfl | rfl | rfl
 ·exact new_scan s hs w
 ·exact new_grid s hs w
 ·exact new_tree s hs w
theorem eqNil0 (W : World) : (binOp .eql 24 .nilIface .nilIface).run Tryz.prog W = .ok (.bool true) W := by kernel_rfl
theorem plays_no (w : World) (i s : Int) (h : ¬ (0 ≤ i ∧ i ≤ 2 ∧ Size s)) (v : Value) : Calls Tryz.prog 3 #[.int .i64 i, .int .i64 s, v] w fun e w' => e = .returned (.bool true) ∧ Keeps (fun _ => False) w w' := by
 have z1 := fun W => new_no i s h W
 have z2 := fun W => fits_g i s W
 simp only [h, decide_false] at z2
 have heq := eqNil0
 clear h
 go_enter Tryz.func3, Tryz.ntmps3
 go_wp2_with (first
  | (go_at_call 5; (with_reducible refine (z1 _).mono ?_); rintro e w1 ⟨rfl, hk1⟩; have HK1 := Lib.hid hk1; clear hk1)
  | (go_at_call 6; (with_reducible refine (z2 _).mono ?_); rintro e w2 ⟨rfl, rfl⟩)
  | (go_at_call 7; (with_reducible refine (lives_t _).mono ?_); rintro e w3 ⟨rfl, hk3⟩; have HK3 := Lib.hid (HK1.out.trans hk3); clear hk3))
 go_ret
 exact ⟨rfl, HK3.out⟩
theorem asks2 {w : World} {t : TypeId} {B : Nat} {F : Nat → Prop} {L : List (Nat × Bx)} (h : Fi.Fd w (.iface t (.pointer (some ⟨B, 0, none⟩))) F L) (hL : OkL L) : ∃ fA fC fL rL, Asks w (.iface t (.pointer (some ⟨B, 0, none⟩))) L t B fA fC fL rL := by
 obtain ⟨t', B', fA, fC, fL, rL, hQ⟩ := h.asks hL
 obtain ⟨rfl, hB⟩ := Value.iface.inj hQ.val
 simp only [Value.pointer.injEq, Option.some.injEq, Addr.mk.injEq, and_true] at hB
 subst hB
 exact ⟨fA, fC, fL, rL, hQ⟩
theorem done_4 {w : World} {v : Value} {F : Nat → Prop} {L : List (Nat × Bx)} {R : Nat} {Lr : List (Nat × Bx)} (h : Pr w v F L R Lr) : Calls Tryz.prog 10 #[v, .pointer (some ⟨R, 0, none⟩), .agg #[.int .i64 4, .int .u32 0, .int .i32 0, .int .i32 0, .int .i32 0, .int .i32 0, .int .i32 0, .int .i32 0, .int .i32 0, .int .i32 0, .int .i64 0]] w fun e w' => e = .returned (.bool true) ∧ StepD v R F w w' :=
 done_t h ⟨4, 0, ⟨0, 0, 0, 0⟩, 0, 0, 0, 0, 0⟩ ZAH
theorem plays_yes (w : World) (ix s : Int) (h : 0 ≤ ix ∧ ix ≤ 2 ∧ Size s) (a : Option Addr) (cap : Nat) (rows : List Stp) (hrows : RowsX w a rows) (hlr : rows.length * 56 ≤ 140737488351232) : Calls Tryz.prog 3 #[.int .i64 ix, .int .i64 s, .slice a rows.length cap] w fun e w' => e = .returned (.bool true) ∧ Keeps (fun k => w.heap.size ≤ k) w w' := by
 have z1 := fun W => new_yes ix s h W
 have z2 := fun W => fits_g ix s W
 simp only [h, and_self, decide_true] at z2
 obtain ⟨n, hn⟩ := ZE rows.length
 rw [← hn] at hlr ⊢
 have HN := Lib.hid (And.intro hn hlr)
 have hnI : (n : Int) ≤ 9223372036854775807 := by omega
 have HR := Lib.hid hrows
 have heq := eq_nil
 clear hn hrows h hlr
 go_enter Tryz.func3, Tryz.ntmps3
 go_wp2_with (first
  | (go_at_call 5; (with_reducible refine (z1 _).mono ?_); rintro e w1 ⟨v, F0, rfl, g1, g2, g3⟩; obtain ⟨t, B, fA, fC, fL, rL, hQ⟩ := Fi.Fd.asks g1 OkL.nil; have hval := hQ.val; subst hval; have HG := Lib.hid (And.intro g1 (And.intro g2 g3)); clear g1 g2 g3 hQ)
  | (go_at_call 6; (with_reducible refine (z2 _).mono ?_); rintro e w2 ⟨rfl, rfl⟩))
 obtain ⟨R, hR⟩ := ZE w1.heap.size
 obtain ⟨w3, hw3⟩ := ZE (w1.alloc (.cells #[.slice none 0 0] 33))
 have HM0 := Lib.hid (show MI w (.iface t (.pointer (some ⟨B, 0, none⟩))) R w.heap.size [] [] F0 [] none 0 w3 from by
  obtain ⟨g1, g2, g3⟩ := HG.out
  have k3 : Keeps (fun _ => False) w1 w3 := by rw [hw3]; (repeat (first | exact Keeps.refl _ _ | refine Keeps.alloc ?_ _ | refine Keeps.drew ?_))
  have hb : Blk w3 R 33 [.slice none 0 0] := by rw [hw3, hR]; exact Blk.new w1 33 [.slice none 0 0]
  have hi := Fi.Fd.inb g1
  exact ⟨⟨Fi.Fd.kd g1 k3, OkL.nil, ⟨none, 0, ⟨hb, World.ownsRow_nil _ _ _ _⟩, fun k _ => by simp [Value.ownBlock]⟩, fun hF => by have := hi _ hF; omega, by unfold Rise; simp, fun p => Iff.rfl⟩, World.ownsRow_nil _ _ _ _, fun x hx => by simp at hx, fun k hk => by simp [Value.ownBlock] at hk, g3, by have := g2.size; omega, Nat.le_refl _, kf (g2.trans k3)⟩)
 (try rw [← hw3])
 (try rw [← hR])
 clear hw3 hR z1 z2
 go_loopw [10, 11] (fun v q wr => ∃ (i : Nat) (L Lr : List (Nat × Bx)) (F : Nat → Prop) (l : List KIt) (la : Option Addr) (lc : Nat), q = .int .i64 (i : Int) ∧ i ≤ n ∧ v = .slice la l.length lc ∧ l.length ≤ 2 * i ∧ MI w (.iface t (.pointer (some ⟨B, 0, none⟩))) R w.heap.size L Lr F l la lc wr) (fun _ q _ => n - (intOf q).toNat)
 case atStart => exact ⟨0, [], [], F0, [], none, 0, rfl, Nat.zero_le _, rfl, Nat.le_refl _, HM0.out⟩
 case round =>
  obtain ⟨i, L, Lr, F, l, la, lc, rfl, hi, rfl, hll, hM⟩ := hrel
  have HM := Lib.hid hM
  have hi0 : (0 : Int) ≤ i := by omega
  clear hM
  by_cases hlt : i < n
  ·have hltI : (i : Int) < (n : Int) := by omega
   obtain ⟨x, hx⟩ : ∃ x, rows[i]? = some x := ⟨_, List.getElem?_eq_getElem (by have := HN.out.1; omega)⟩
   obtain ⟨hid, g, off, rfl, hg, hc⟩ := HR.out i x hx
   have hcw : ∀ j u, x.cells[j]? = some u → wr.cell? ⟨g, off + i * 11 + j, none⟩ = some u := fun j u hj => HM.out.keep.cell (hc j u hj) ZAV
   have c0 := hcw 0 _ rfl
   have c1 := hcw 1 _ rfl
   have c2 := hcw 2 _ rfl
   have c3 := hcw 3 _ rfl
   have c4 := hcw 4 _ rfl
   have c5 := hcw 5 _ rfl
   have c6 := hcw 6 _ rfl
   have c7 := hcw 7 _ rfl
   have c8 := hcw 8 _ rfl
   have c9 := hcw 9 _ rfl
   have c10 := hcw 10 _ rfl
   simp only [Nat.add_zero] at c0
   obtain ⟨B12, hB12⟩ := ZE wr.heap.size
   have HXr := Lib.hid (And.intro hx hid)
   clear hc hcw hx hid
   have HL := Lib.hid (show (l.length + 1 ≤ maxLen ∧ (l.length + l.length / 4 + 512) * 32 ≤ 281474976710656) ∧ (l.length + 1 + 1 ≤ maxLen ∧ (l.length + 1 + (l.length + 1) / 4 + 512) * 32 ≤ 281474976710656) from by have := HN.out.2; unfold maxLen; omega)
   have HLL := Lib.hid hll
   clear hll
   by_cases h5 : x.do_ = 5
   ·have e5 : (x.do_ == 5) = true := by rw [h5]; rfl
    clear h5
    go_wp2
    (obtain ⟨W12, hW12⟩ := ZE (wr.alloc (.cells #[.int .i64 x.do_, .int .u32 (x.id : Int), .int .i32 x.b.x0, .int .i32 x.b.y0, .int .i32 x.b.x1, .int .i32 x.b.y1, .int .i32 x.px, .int .i32 x.py, .int .i32 x.qx, .int .i32 x.qy, .int .i64 x.stop] 41)); have HKW := Lib.hid (show Keeps (fun _ => False) wr W12 from (by rw [hW12]; exact Z4)); have HB12 := Lib.hid (show Blk W12 B12 41 [.int .i64 x.do_, .int .u32 (x.id : Int), .int .i32 x.b.x0, .int .i32 x.b.y0, .int .i32 x.b.x1, .int .i32 x.b.y1, .int .i32 x.px, .int .i32 x.py, .int .i32 x.qx, .int .i32 x.qy, .int .i64 x.stop] from ZAc); rw [← hW12]; (try rw [← hB12]); clear hW12 hB12)
    clear c0 c1 c2 c3 c4 c5 c6 c7 c8 c9 c10 e5
    have HMw := Lib.hid (HM.out.kd HKW.out)
    obtain ⟨fA, fC, fL, rL, hQ⟩ := asks2 HMw.out.pr.fd HMw.out.pr.ok
    have enA := hQ.enA
    have enC := hQ.enC
    have HQM := Lib.hid (And.intro hQ.mA hQ.mC)
    have HQA := Lib.hid (And.intro (fun W (k : Keeps (fun _ => False) W12 W) => hQ.aA W k x.px x.py) (fun W (k : Keeps (fun _ => False) W12 W) => hQ.aC W k x.px x.py x.qx x.qy))
    have hP := HMw.out.pr
    obtain ⟨ra, rcp, hrf, hrd⟩ := hP.rf
    have hLen : Lr.length ≤ 100000 := by have := hP.len; have := hP.ok.len; omega
    obtain ⟨VA, hVA⟩ := ZE (wl (fun p => decide (coversP x.px x.py p.2)) Lr)
    obtain ⟨VC, hVC⟩ := ZE (wl (fun p => decide (tkC x.px x.py x.qx x.qy p.2)) Lr)
    have hanA : Ans L (coversP x.px x.py) VA := by rw [hVA]; exact ans_wl hP.rise hP.mem _ (fun p _ => ZA7)
    have hanC : Ans L (tkC x.px x.py x.qx x.qy) VC := by rw [hVC]; exact ans_wl hP.rise hP.mem _ (fun p _ => ZA7)
    have HAn := Lib.hid (And.intro hanA hanC)
    have HVC := Lib.hid hVC
    have HLn := Lib.hid (And.intro (ans_small hP.ok hanA) (ans_small hP.ok hanC))
    have HRR := Lib.hid (And.intro (fun W (k : Keeps (fun _ => False) W12 W) => at_D W R ra rcp Lr (hrf.kd k) hLen x.px x.py) (fun W (k : Keeps (fun _ => False) W12 W) => cross_D W R ra rcp Lr (hrf.kd k) hLen (fun p hp => hP.ok.right p ((hP.mem p).2 hp)) x.px x.py x.qx x.qy (fun p => decide (tkC x.px x.py x.qx x.qy p.2)) (fun p _ => ZA7)))
    rw [← hVA, ← hVC] at HRR
    clear hQ hrf hrd hLen hanA hanC hVA hVC hP
    have HSN := Lib.hid (show ∀ W', Keeps (fun _ => False) W12 W' → (∀ i : Nat, W'.cell? ⟨B12, i, none⟩ = ([.int .i64 x.do_, .int .u32 (x.id : Int), .int .i32 x.b.x0, .int .i32 x.b.y0, .int .i32 x.b.x1, .int .i32 x.b.y1, .int .i32 x.px, .int .i32 x.py, .int .i32 x.qx, .int .i32 x.qy, .int .i64 x.stop] : List Value)[i]?) from fun W' hk => (HB12.out.keeps hk (fun h => h)).cell)
    rename_i Kx hKx
    refine wp_mono (Q := Exit.then Kx (fun _ _ _ => False)) ?_ (fun e a w h => ZAN)
    refine wp_region_held_drew (S := fun W => (∀ i : Nat, W.cell? ⟨B12, i, none⟩ = ([.int .i64 x.do_, .int .u32 (x.id : Int), .int .i32 x.b.x0, .int .i32 x.b.y0, .int .i32 x.b.x1, .int .i32 x.b.y1, .int .i32 x.px, .int .i32 x.py, .int .i32 x.qx, .int .i32 x.qy, .int .i64 x.stop] : List Value)[i]?)) ZAB (HSN.out _ Z4) (fun hSx => ?_)
    refine tK 0 hSx ?_
    refine tK 1 hSx ?_
    refine tK 2 hSx ?_
    refine tK 3 hSx ?_
    refine tK 5 hSx ?_
    refine tK 6 hSx ?_
    refine tK 7 hSx ?_
    refine anyH_one 4 ZAB rfl ZAP (fun K hK => ?_)
    have hm := HQM.out.1
    go_simp
    (with_reducible refine (HQA.out.1 _ Z4).mono ?_)
    rintro e wa ⟨VB, V, rfl, k1, hv, ha⟩
    have HKa := Lib.hid (show Keeps (fun _ => False) W12 wa from Keeps.trans Z4 k1)
    have HVa := Lib.hid (show ∃ b, W12.heap.size ≤ b ∧ Vals b wa VB V from ⟨_, (show Keeps (fun _ => False) W12 _ from Z4).size, hv⟩)
    have HE := Lib.hid (ha.one HAn.out.1)
    clear hv ha hm k1
    have hS1 := HSN.out _ HKa.out
    refine hK _ _ hS1 ?_
    clear hK K hSx
    try simp only [y0, y1, y2, y3, y4, y5, y6]
    refine anyH_one 8 ZAB rfl ZAP (fun K hK => ?_)
    go_simp
    (with_reducible refine (HRR.out.1 _ (by first | exact HKa.out | (refine HKa.out.trans ?_; exact Z4))).mono ?_)
    rintro e wb ⟨oa, oc, rfl, k2, ho⟩
    have k12 := Keeps.trans (show Keeps (fun _ => False) wa _ from Z4) k2
    have HKb := Lib.hid (HKa.out.trans k12)
    have HX := Lib.hid (show ∃ va vc, KOk wb F R ⟨VB, va, vc, oa, oc, VA⟩ from by
     obtain ⟨b, hb, hv⟩ := HVa.out
     rw [HE.out] at hv
     exact HMw.out.taken hb hv k12 (by first | exact HKa.out.size | exact (HKa.out.trans (show Keeps (fun _ => False) wa _ from Z4)).size) ho HLn.out.1)
    clear k12 k2 ho
    have hS2 := HSN.out _ HKb.out
    refine hK _ _ hS2 ?_
    clear hK K hS1
    try simp only [y0, y1, y2, y3, y4, y5, y6]
    refine tK 9 hS2 ?_
    refine anyH_one 10 ZAB rfl ZAP (fun K hK => ?_)
    go_simp
    have hS3 := HSN.out _ (HKb.out.alloc (.cells #[.func (.func 92) #[] #[.pointer (some ⟨VB, 0, none⟩)], .slice oa VA.length oc] 48))
    refine hK _ _ hS3 ?_
    clear hK K hS2
    try simp only [y0, y1, y2, y3, y4, y5, y6]
    obtain ⟨va, vc, hx⟩ := HX.out
    refine anyH_one 11 ZAB rfl ZAP (fun K hK => ?_)
    refine step_app_g Tryz.underlying34 kInf ZAH (fun _ => rfl) kOne (.tmp 54) (.tmp 64) rfl w.heap.size (l) (l.length) la lc rfl (own_n (owns_keeps HMw.out.own (HKb.out.alloc _) (fun _ _ h => h)) ZA7) ⟨VB, va, vc, oa, oc, VA⟩ wb.heap.size rfl (by exact Mem.news_new wb _ [_, _]) HL.out.1.1 ZAH HL.out.1.2 (Nat.le_trans HMw.out.keep.size ((HKb.out.alloc _).size)) ?_
    intro g' lc' w5 hown hgrow hat
    have HM := Lib.hid ((HMw.out.kd (HKb.out.alloc _)).app (x := ⟨VB, va, vc, oa, oc, VA⟩) ZA7 hown (hx.step (kf ((Keeps.refl (fun _ => False) wb).alloc _)) (fun _ h => .inl h)) ((Keeps.of_grown hgrow).mono (fun _ _ h => h.symm)) hat)
    have HBz := Lib.hid (((HB12.out.keeps HKb.out (fun h => h)).alloc (.cells #[.func (.func 92) #[] #[.pointer (some ⟨VB, 0, none⟩)], .slice oa VA.length oc] 48)).grown hgrow (own_ne (own_n (m := l.length) (owns_keeps HMw.out.own (HKb.out.alloc (.cells #[.func (.func 92) #[] #[.pointer (some ⟨VB, 0, none⟩)], .slice oa VA.length oc] 48)) (fun _ _ h => h)) ZA7) ((HB12.out.keeps HKb.out (fun h => h)).alloc (.cells #[.func (.func 92) #[] #[.pointer (some ⟨VB, 0, none⟩)], .slice oa VA.length oc] 48)) ZAH))
    clear hown hgrow hat hx
    have hS4 := HBz.out.cell
    refine hK _ _ hS4 ?_
    clear hK K hS3
    try simp only [y0, y1, y2, y3, y4, y5, y6]
    refine tK 12 hS4 ?_
    refine wpAnyH_done ZAB ?_ _
    refine hKx _ _ ?_
    clear hKx
    have HM5 := HM
    clear HM
    go_wp2
    clear hS4
    obtain ⟨fA2, fC2, fL2, rL2, hQ⟩ := asks2 HM5.out.pr.fd HM5.out.pr.ok
    have enA2 := hQ.enA
    have enC2 := hQ.enC
    have HQMb := Lib.hid (And.intro hQ.mA hQ.mC)
    have HQAb := Lib.hid (And.intro (fun W (k : Keeps (fun _ => False) w5 W) => hQ.aA W k x.px x.py) (fun W (k : Keeps (fun _ => False) w5 W) => hQ.aC W k x.px x.py x.qx x.qy))
    have hP := HM5.out.pr
    obtain ⟨ra2, rcp2, hrf, hrd⟩ := hP.rf
    have hLen : Lr.length ≤ 100000 := by have := hP.len; have := hP.ok.len; omega
    have hVC : VC = wl (fun p => decide (tkC x.px x.py x.qx x.qy p.2)) Lr := HVC.out
    have HRRb := Lib.hid (And.intro True.intro (fun W (k : Keeps (fun _ => False) w5 W) => cross_D W R ra2 rcp2 Lr (hrf.kd k) hLen (fun p hp => hP.ok.right p ((hP.mem p).2 hp)) x.px x.py x.qx x.qy (fun p => decide (tkC x.px x.py x.qx x.qy p.2)) (fun p _ => ZA7)))
    rw [← hVC] at HRRb
    clear hQ hrf hrd hLen hVC hP
    have HB12b := HBz
    have HSNb := Lib.hid (show ∀ W', Keeps (fun _ => False) w5 W' → (∀ i : Nat, W'.cell? ⟨B12, i, none⟩ = ([.int .i64 x.do_, .int .u32 (x.id : Int), .int .i32 x.b.x0, .int .i32 x.b.y0, .int .i32 x.b.x1, .int .i32 x.b.y1, .int .i32 x.px, .int .i32 x.py, .int .i32 x.qx, .int .i32 x.qy, .int .i64 x.stop] : List Value)[i]?) from fun W' hk => (HB12b.out.keeps hk (fun h => h)).cell)
    rename_i Kxb hKxb
    refine wp_mono (Q := Exit.then Kxb (fun _ _ _ => False)) ?_ (fun e a w h => ZAN)
    refine wp_region_held_drew (S := fun W => (∀ i : Nat, W.cell? ⟨B12, i, none⟩ = ([.int .i64 x.do_, .int .u32 (x.id : Int), .int .i32 x.b.x0, .int .i32 x.b.y0, .int .i32 x.b.x1, .int .i32 x.b.y1, .int .i32 x.px, .int .i32 x.py, .int .i32 x.qx, .int .i32 x.qy, .int .i64 x.stop] : List Value)[i]?)) ZAB (HSNb.out _ Z4) (fun hSx => ?_)
    refine tK 0 hSx ?_
    refine tK 1 hSx ?_
    refine tK 2 hSx ?_
    refine tK 3 hSx ?_
    refine tK 4 hSx ?_
    refine tK 5 hSx ?_
    refine tK 7 hSx ?_
    refine tK 8 hSx ?_
    refine tK 9 hSx ?_
    refine tK 10 hSx ?_
    refine tK 11 hSx ?_
    refine anyH_one 6 ZAB rfl ZAP (fun K hK => ?_)
    have hm := HQMb.out.2
    go_simp
    (with_reducible refine (HQAb.out.2 _ Z4).mono ?_)
    rintro e wab ⟨VBb, Vb, rfl, k1, hv, ha⟩
    have HKab := Lib.hid (show Keeps (fun _ => False) w5 wab from Keeps.trans Z4 k1)
    have HVab := Lib.hid (show ∃ b, w5.heap.size ≤ b ∧ Vals b wab VBb Vb from ⟨_, (show Keeps (fun _ => False) w5 _ from Z4).size, hv⟩)
    have HEb := Lib.hid (ha.one HAn.out.2)
    clear hv ha hm k1
    have hS1 := HSNb.out _ HKab.out
    refine hK _ _ hS1 ?_
    clear hK K hSx
    try simp only [y0, y1, y2, y3, y4, y5, y6]
    refine anyH_one 12 ZAB rfl ZAP (fun K hK => ?_)
    go_simp
    (with_reducible refine (HRRb.out.2 _ (by first | exact HKab.out | (refine HKab.out.trans ?_; exact Z4))).mono ?_)
    rintro e wbb ⟨oab, ocb, rfl, k2, ho⟩
    have k12 := Keeps.trans (show Keeps (fun _ => False) wab _ from Z4) k2
    have HKbb := Lib.hid (HKab.out.trans k12)
    have HXb := Lib.hid (show ∃ va vc, KOk wbb F R ⟨VBb, va, vc, oab, ocb, VC⟩ from by
     obtain ⟨b, hb, hv⟩ := HVab.out
     rw [HEb.out] at hv
     exact HM5.out.taken hb hv k12 (by first | exact HKab.out.size | exact (HKab.out.trans (show Keeps (fun _ => False) wab _ from Z4)).size) ho HLn.out.2)
    clear k12 k2 ho
    have hS2 := HSNb.out _ HKbb.out
    refine hK _ _ hS2 ?_
    clear hK K hS1
    try simp only [y0, y1, y2, y3, y4, y5, y6]
    refine tK 13 hS2 ?_
    refine anyH_one 14 ZAB rfl ZAP (fun K hK => ?_)
    go_simp
    have hS3 := HSNb.out _ (HKbb.out.alloc (.cells #[.func (.func 92) #[] #[.pointer (some ⟨VBb, 0, none⟩)], .slice oab VC.length ocb] 48))
    refine hK _ _ hS3 ?_
    clear hK K hS2
    try simp only [y0, y1, y2, y3, y4, y5, y6]
    obtain ⟨vab, vcb, hxb⟩ := HXb.out
    refine anyH_one 15 ZAB rfl ZAP (fun K hK => ?_)
    refine step_app_g Tryz.underlying34 kInf ZAH (fun _ => rfl) kOne (.tmp 66) (.tmp 80) rfl w.heap.size (l ++ [⟨VB, va, vc, oa, oc, VA⟩]) (l.length + 1) (some ⟨g', 0, none⟩) lc' rfl (own_n (owns_keeps HM5.out.own (HKbb.out.alloc _) (fun _ _ h => h)) ZA7) ⟨VBb, vab, vcb, oab, ocb, VC⟩ wbb.heap.size rfl (by exact Mem.news_new wbb _ [_, _]) HL.out.2.1 ZAH HL.out.2.2 (Nat.le_trans HM5.out.keep.size ((HKbb.out.alloc _).size)) ?_
    intro gb lcb w5b hown hgrow hat
    have HMb := Lib.hid ((HM5.out.kd (HKbb.out.alloc _)).app (x := ⟨VBb, vab, vcb, oab, ocb, VC⟩) ZA7 hown (hxb.step (kf ((Keeps.refl (fun _ => False) wbb).alloc _)) (fun _ h => .inl h)) ((Keeps.of_grown hgrow).mono (fun _ _ h => h.symm)) hat)
    have HBbz := Lib.hid (((HB12b.out.keeps HKbb.out (fun h => h)).alloc (.cells #[.func (.func 92) #[] #[.pointer (some ⟨VBb, 0, none⟩)], .slice oab VC.length ocb] 48)).grown hgrow (own_ne (own_n (m := l.length + 1) (owns_keeps HM5.out.own (HKbb.out.alloc (.cells #[.func (.func 92) #[] #[.pointer (some ⟨VBb, 0, none⟩)], .slice oab VC.length ocb] 48)) (fun _ _ h => h)) ZA7) ((HB12b.out.keeps HKbb.out (fun h => h)).alloc (.cells #[.func (.func 92) #[] #[.pointer (some ⟨VBb, 0, none⟩)], .slice oab VC.length ocb] 48)) ZAH))
    clear hown hgrow hat hxb
    have hS4 := HBbz.out.cell
    refine hK _ _ hS4 ?_
    clear hK K hS3
    try simp only [y0, y1, y2, y3, y4, y5, y6]
    refine tK 16 hS4 ?_
    refine wpAnyH_done ZAB ?_ _
    refine hKxb _ _ ?_
    clear hKxb
    have HX8 := Lib.hid (done_t HMb.out.pr x HXr.out.2)
    go_wp2_with (go_at_call 10; (with_reducible refine HX8.out.mono ?_); rintro e w6 ⟨rfl, hst⟩; have HST := Lib.hid hst; clear hst)
    go_roundw
    case rel =>
     obtain ⟨L', Lr', F', hM'⟩ := HMb.out.step HST.out
     exact ⟨i + 1, L', Lr', F', l ++ [⟨VB, va, vc, oa, oc, VA⟩] ++ [⟨VBb, vab, vcb, oab, ocb, VC⟩], some ⟨gb, 0, none⟩, lcb, ZAm, Z8, ZA7, by have := HLL.out; simp; omega, hM'⟩
    case measure => simp only [intOf]; omega
   ·have e5 : (x.do_ == 5) = false := by simpa using h5
    clear h5
    go_wp2_with (go_at_call 10; (obtain ⟨W12, hW12⟩ := ZE (wr.alloc (.cells #[.int .i64 x.do_, .int .u32 (x.id : Int), .int .i32 x.b.x0, .int .i32 x.b.y0, .int .i32 x.b.x1, .int .i32 x.b.y1, .int .i32 x.px, .int .i32 x.py, .int .i32 x.qx, .int .i32 x.qy, .int .i64 x.stop] 41)); have HKW := Lib.hid (show Keeps (fun _ => False) wr W12 from (by rw [hW12]; exact Z4)); have HB12 := Lib.hid (show Blk W12 B12 41 [.int .i64 x.do_, .int .u32 (x.id : Int), .int .i32 x.b.x0, .int .i32 x.b.y0, .int .i32 x.b.x1, .int .i32 x.b.y1, .int .i32 x.px, .int .i32 x.py, .int .i32 x.qx, .int .i32 x.qy, .int .i64 x.stop] from ZAc); rw [← hW12]; (try rw [← hB12]); clear hW12 hB12); have HMw := Lib.hid (HM.out.kd HKW.out); (with_reducible refine (done_t HMw.out.pr x HXr.out.2).mono ?_); rintro e w6 ⟨rfl, hst⟩; have HST := Lib.hid hst; clear hst)
    go_roundw
    case rel =>
     obtain ⟨L', Lr', F', hM'⟩ := HMw.out.step HST.out
     exact ⟨i + 1, L', Lr', F', l, la, lc, ZAm, Z8, rfl, by have := HLL.out; omega, hM'⟩
    case measure => simp only [intOf]; omega
  ·have hltN : ¬ (i : Int) < (n : Int) := by omega
   have HE := Lib.hid (And.intro hll hi)
   clear hll hlt hi
   go_wp2
   obtain ⟨m, hm⟩ := ZE l.length
   have hO := HM.out.own
   rw [← hm] at hO ⊢
   have hmI : (m : Int) ≤ 9223372036854775800 := by have := HE.out; have := HN.out.2; omega
   have HO := Lib.hid (And.intro hm hO)
   obtain ⟨w8, hw8⟩ := ZE wr
   rw [← hw8]
   rw [← hw8] at HM HO
   clear hm hO hw8
   go_loopw [13] (fun q wr => ∃ j : Nat, q = .int .i64 (j : Int) ∧ j ≤ m ∧ Keeps (fun _ => False) w8 wr) (fun q _ => m - (intOf q).toNat)
   case atStart => exact ⟨0, rfl, Nat.zero_le _, Keeps.refl _ _⟩
   case round =>
    obtain ⟨j, rfl, hj, hk⟩ := hrel
    have HK := Lib.hid hk
    have hj0 : (0 : Int) ≤ j := by omega
    by_cases hjl : j < m
    ·have hjI : (j : Int) < (m : Int) := by omega
     obtain ⟨x, hx⟩ : ∃ x, l[j]? = some x := ⟨_, List.getElem?_eq_getElem (by have := HO.out.1; omega)⟩
     obtain ⟨gl, hgl, -, -⟩ := own_kcl HO.out.2 HO.out.1 hx
     subst hgl
     have HSK := Lib.hid (show ∀ W, Keeps (fun _ => False) wr W → W.cell? ⟨gl, j * 2, none⟩ = some (.func (.func 92) #[] #[.pointer (some ⟨x.vb, 0, none⟩)]) ∧ W.cell? ⟨gl, j * 2 + 1, none⟩ = some (.slice x.oa x.V.length x.oc) from fun W hw => by
      obtain ⟨gl', hgl, d0, d1⟩ := own_kcl (owns_keeps HO.out.2 (hk.trans hw) (fun _ _ h => h)) HO.out.1 hx
      cases hgl
      exact ⟨d0, d1⟩)
     have hok := (HM.out.ok x (List.mem_of_getElem? hx)).step (kf hk) (fun _ h => .inl h)
     have HV := Lib.hid hok.vals
     have HOo := Lib.hid hok.orow
     have HLx := Lib.hid hok.len
     clear hx hok hk
     go_wp2
     rename_i Kx hKx
     refine wp_mono (Q := Exit.then Kx (fun _ _ _ => False)) ?_ (fun e a w h => ZAN)
     refine wp_region_held_drew (S := fun W => W.cell? ⟨gl, j * 2, none⟩ = some (.func (.func 92) #[] #[.pointer (some ⟨x.vb, 0, none⟩)]) ∧ W.cell? ⟨gl, j * 2 + 1, none⟩ = some (.slice x.oa x.V.length x.oc)) ZAB (HSK.out _ Z4) (fun hSx => ?_)
     refine tK 0 hSx ?_
     refine tK 1 hSx ?_
     refine tK 2 hSx ?_
     refine tK 3 hSx ?_
     refine tK 4 hSx ?_
     refine tK 6 hSx ?_
     refine tK 7 hSx ?_
     refine tK 8 hSx ?_
     refine tK 9 hSx ?_
     refine tK 10 hSx ?_
     refine anyH_one 5 ZAB rfl ZAP (fun K hK => ?_)
     go_simp
     (with_reducible refine (told_0 (vals_kd HV.out Z4) HLx.out).mono ?_)
     rintro e wA ⟨u, rfl, hu, k1⟩
     have HKA := Lib.hid (Keeps.trans (show Keeps (fun _ => False) wr _ from Z4) k1)
     have HU := Lib.hid hu
     clear hu k1
     have hS1 := HSK.out _ HKA.out
     refine hK _ _ hS1 ?_
     clear hK K hSx
     try simp only [y0, y1, y2, y3, y4, y5, y6]
     refine anyH_one 11 ZAB rfl ZAP (fun K hK => ?_)
     go_simp
     (with_reducible refine (same_ok (U32s_kd HU.out Z4) (u32s_row (owns_keeps HOo.out (HKA.out.trans Z4) (fun _ _ h => h))) HLx.out).mono ?_)
     rintro e wB ⟨rfl, k2⟩
     have HKB := Lib.hid (HKA.out.trans (Keeps.trans (show Keeps (fun _ => False) wA _ from Z4) k2))
     clear k2
     have hS2 := HSK.out _ HKB.out
     refine hK _ _ hS2 ?_
     clear hK K hS1
     try simp only [y0, y1, y2, y3, y4, y5, y6]
     refine tK 12 hS2 ?_
     refine wpAnyH_done ZAB ?_ _
     refine hKx _ _ ?_
     clear hKx hS2
     go_wp2
     go_roundw
     case rel => exact ⟨j + 1, ZAm, Z8, HK.out.trans HKB.out⟩
     case measure => simp only [intOf]; omega
    ·obtain rfl : j = m := by omega
     have HB := Lib.hid (done_4 (HM.out.kd hk).pr)
     clear hk
     go_wp2_with (first
      | (go_at_call 10; (with_reducible refine HB.out.mono ?_); rintro e wC ⟨rfl, hst⟩; have HST := Lib.hid hst; clear hst)
      | (go_at_call 7; (with_reducible refine (lives_t _).mono ?_); rintro e wD ⟨rfl, hk3⟩; have HK3 := Lib.hid hk3; clear hk3))
     go_ret
     obtain ⟨L', Lr', F', hM'⟩ := (HM.out.kd HK.out).step HST.out
     exact ⟨rfl, hM'.keep.trans (kf HK3.out)⟩
end Fq
open Go.ChangeShapes Go.WideShapes Go.ChangeAt Go.RowKit
namespace Flat
def flatFs (go : TypeId → Option (List IntKind)) (P : Program) : Nat → List Field → Option (List IntKind)
 | _, [] => some []
 | o, f :: fs => if f.offset = o then
  match go f.type with
  | some a => if a.length = P.cellsOf f.type then
   match flatFs go P (o + P.cellsOf f.type) fs with
   | some b => some (a ++ b)
   | none => none
   else none
  | none => none
  else none
def flat (P : Program) : Nat → TypeId → Option (List IntKind)
 | 0, _ => none
 | n + 1, t => match P.underlying t with
  | some (.int k) => some [k]
  | some (.struct fs) => match flatFs (flat P n) P 0 fs.toList with
   | some ks => if ks.length = P.cellsOf t then some ks else none
   | none => none
  | _ => none
def Ints : List IntKind → List Value → Prop
 | [], cs => cs = []
 | k :: ks, cs => ∃ n cs', cs = .int k n :: cs' ∧ (Lit.int k n).wf = true ∧ Ints ks cs'
theorem Ints.append {a b : List IntKind} {c d : List Value} (h : Ints a c) (g : Ints b d) : Ints (a ++ b) (c ++ d) := by
 induction a generalizing c with
 | nil => cases h; exact g
 | cons k ks ih =>
  obtain ⟨n, cs', rfl, hw, h'⟩ := h
  exact ⟨n, cs' ++ d, rfl, hw, ih h'⟩
variable {H : Type} {enc : TypeId × Value → H} {P : Program} {w : World} {base : Nat} {spare : Nat → Bool} {held : Bool}
theorem flatFs_open (go : TypeId → Option (List IntKind)) (Q : TypeId → List Value → Prop) (hQ : ∀ t ks cs, go t = some ks → Q t cs → Ints ks cs) (cs : List Value) :
 ∀ (fs : List Field) (o : Nat) (ks : List IntKind), flatFs go P o fs = some ks → (∀ f ∈ fs, Q f.type ((cs.drop f.offset).take (P.cellsOf f.type))) → cs.length = o + ks.length → Ints ks (cs.drop o) := by
 intro fs
 induction fs with
 | nil =>
  intro o ks h _ hl
  simp only [flatFs, Option.some.injEq] at h
  subst h
  exact List.drop_eq_nil_of_le (by simpa using Nat.le_of_eq hl)
 | cons f fs ih =>
  intro o ks h hf hl
  simp only [flatFs] at h
  split at h
  ·rename_i ho
   split at h
   ·rename_i a ha
    split at h
    ·rename_i hal
     split at h
     ·rename_i b hb
      cases h
      have h1 := hQ _ _ _ ha (hf f ZA7)
      rw [ho] at h1
      have h2 := ih (o + P.cellsOf f.type) b hb (fun g hg => hf g (by simp [hg])) (by simp only [List.length_append] at hl; omega)
      rw [← List.drop_drop] at h2
      have := h1.append h2
      rwa [List.take_append_drop] at this
     ·cases h
    ·cases h
   ·cases h
  ·cases h
theorem flat_open : ∀ (n : Nat) (t : TypeId) (ks : List IntKind) (fuel : Nat) (cs : List Value) (x : DataW H × List MemPlace), flat P n t = some ks → DataW.trod enc P w base spare held fuel t cs = some x → Ints ks cs := by
 intro n
 induction n with
 | zero => intro t ks fuel cs x h; cases h
 | succ n ih =>
  intro t ks fuel cs x h hx
  simp only [flat] at h
  split at h
  ·rename_i k ht
   cases h
   obtain ⟨m, rfl, _, hw⟩ := DataW.trod_int ht hx
   exact ⟨m, [], rfl, hw, rfl⟩
  ·rename_i fs ht
   split at h
   ·rename_i ks' hks
    split at h
    ·rename_i hlen
     cases h
     obtain ⟨xs, m, rfl, _, hcl, hxl, hfs⟩ := DataW.trod_struct ht hx
     have := flatFs_open (P := P) (flat P n) (fun t cs => ∃ f x, DataW.trod enc P w base spare held f t cs = some x) (fun t ks cs h ⟨f, x, hx⟩ => ih t ks f cs x h hx) cs fs.toList 0 ks hks
      (fun f hf => by
        obtain ⟨i, hi, rfl⟩ := List.getElem_of_mem hf
        simp only [Array.length_toList] at hi
        have h1 := hfs i fs[i] (by simp [hi])
        exact ⟨m, xs[i]'Z8, by simpa using h1.trans (List.getElem?_eq_getElem Z8)⟩) Z8
     simpa using this
    ·cases h
   ·cases h
  ·cases h
end Flat
open Go.ChangeShapes Go.WideShapes Go.ChangeAt Go.RowKit
namespace Flat
variable {H : Type} {enc : TypeId × Value → H} {P : Program} {w : World} {base : Nat} {spare : Nat → Bool} {held : Bool}
theorem flat_slice {n : Nat} {t e : TypeId} {ks : List IntKind} {fuel : Nat} {cs : List Value} {x : DataW H × List MemPlace} (ht : P.underlying t = some (.slice e)) (he : flat P n e = some ks) (hm : P.cellsOf e = ks.length) (h0 : 0 < ks.length) (h : DataW.trod enc P w base spare held fuel t cs = some x) :
 ∃ (a : Option Addr) (rows : List (List Value)) (cap : Nat), cs = [.slice a rows.length cap] ∧ rows.length ≤ maxLen ∧ (∀ r ∈ rows, Ints ks r) ∧ ∀ i r, rows[i]? = some r → ∃ b off, a = some ⟨b, off, none⟩ ∧ b < w.heap.size ∧ ∀ j u, r[j]? = some u → w.cell? ⟨b, off + i * ks.length + j, none⟩ = some u := by
 rcases DataW.trod_slice ht h with ⟨rfl, _⟩ | ⟨a, len, cap, elems, rest, m, _, rfl, rfl, hb, hl, hmx, hlen, hel, hsp, hns⟩
 ·exact ⟨none, [], 0, rfl, Nat.zero_le _, ZA7, ZA7⟩
 have each : ∀ i, i < len → ∃ r, w.cells? base (a.add (i * ks.length)) ks.length = some r ∧ Ints ks r := fun i hi => by
  have h1 := hel i hi
  rw [List.getElem?_eq_getElem Z8, Option.bind_eq_some_iff] at h1
  obtain ⟨r, hr, hx⟩ := h1
  rw [hm] at hr
  exact ⟨r, hr, flat_open n e ks m r _ he hx⟩
 refine ⟨some a, (List.range len).map fun i => (w.cells? base (a.add (i * ks.length)) ks.length).getD [], cap, ZA7, ZAV, ?_, ?_⟩
 ·intro r hr
  obtain ⟨i, hi, rfl⟩ := List.mem_map.1 hr
  obtain ⟨r, hr, hI⟩ := each i (List.mem_range.1 hi)
  rw [hr]; exact hI
 ·intro i r hr
  have hi : i < len := by
   have := (List.getElem?_eq_some_iff.1 hr).1
   simpa using this
  obtain ⟨r', hr', hI⟩ := each i hi
  simp only [List.getElem?_map, List.getElem?_range hi, Option.map_some, hr', Option.getD_some, Option.some.injEq] at hr
  subst hr
  obtain ⟨hb', hl', hc⟩ := World.cells?_some hr'
  have hc0 := hc 0 h0
  have hlt : 0 < r'.length := by omega
  rw [List.getElem?_eq_getElem hlt] at hc0
  obtain ⟨b, off, spot⟩ := a
  have hspot : spot = none := by
   obtain ⟨r0, hr0, _⟩ := each 0 Z8
   obtain ⟨_, hl0, hz⟩ := World.cells?_some hr0
   have hz0 := hz 0 h0
   rw [List.getElem?_eq_getElem Z8] at hz0
   have := World.cell?_spot hz0
   simpa [Addr.add] using this
  subst hspot
  refine ⟨b, off, rfl, ?_, fun j u hj => ?_⟩
  ·rw [add_plain, add_plain] at hc0
   unfold World.cell? at hc0
   split at hc0
   ·rename_i hh; exact (Array.getElem?_eq_some_iff.1 hh).1
   ·cases hc0
  ·have hjl : j < ks.length := by have := (List.getElem?_eq_some_iff.1 hj).1; omega
   have := hc j hjl
   rw [add_plain, add_plain] at this
   rw [this, hj]
end Flat
open Go.ChangeShapes Go.WideShapes Go.ChangeAt Go.RowKit
namespace Flat
theorem slice_data {H : Type} {enc : TypeId × Value → H} {P : Program} {w : World} {base : Nat} {spare : Nat → Bool} {held : Bool} {t e : TypeId} {fuel : Nat} {a : Option Addr} {n cap : Nat} {x : DataW H × List MemPlace} (ht : P.underlying t = some (.slice e)) (h : DataW.trod enc P w base spare held fuel t [.slice a n cap] = some x) :
 n = 0 ∨ ∃ es sp, x.1 = .slice es sp ∧ es.length = n := by
 rcases DataW.trod_slice ht h with ⟨e0, _⟩ | ⟨a', len, cap', elems, rest, m, _, e0, rfl, hb, hl, hmx, hlen, hel, hsp, hns⟩
 ·simp at e0; exact .inl e0.2.1
 ·simp at e0
  exact .inr ⟨_, _, rfl, by rw [List.length_map, hlen]; exact e0.2.1.symm⟩
end Flat
namespace Fq
open Mem Gs Fi
theorem u32_wf0 {a : Int} (h : (Lit.int .u32 a).wf = true) : 0 ≤ a ∧ a ≤ 4294967295 := by
 have h1 : IntKind.u32.min = 0 := rfl
 have h2 : IntKind.u32.max = 4294967295 := rfl
 simp [Lit.wf] at h
 omega
def toStp : List Value → Stp
 | [.int _ k, .int _ id, .int _ a, .int _ b, .int _ c, .int _ d, .int _ e, .int _ f, .int _ g, .int _ h, .int _ s] => ⟨k, id.toNat, ⟨a, b, c, d⟩, e, f, g, h, s⟩
 | _ => ⟨0, 0, ⟨0, 0, 0, 0⟩, 0, 0, 0, 0, 0⟩
theorem toStp_cells {r : List Value} (h : Flat.Ints [.i64, .u32, .i32, .i32, .i32, .i32, .i32, .i32, .i32, .i32, .i64] r) : (toStp r).cells = r ∧ (toStp r).id < 4294967296 := by
 obtain ⟨k, c0, rfl, v0, n, c1, rfl, w0, a, c2, rfl, w1, b, c3, rfl, w2, c, c4, rfl, w3, d, c5, rfl, w4, e, c6, rfl, w5, f, c7, rfl, w6, g, c8, rfl, w7, h, c9, rfl, w8, s, c10, rfl, w9, rfl⟩ := h
 have := u32_wf0 w0
 have hn : (n.toNat : Int) = n := Int.toNat_of_nonneg Z8
 constructor
 ·simp [toStp, Stp.cells, hn]
 ·simp only [toStp]; omega
theorem rows_of {w : World} {a : Option Addr} {rows : List (List Value)} (hI : ∀ r ∈ rows, Flat.Ints [.i64, .u32, .i32, .i32, .i32, .i32, .i32, .i32, .i32, .i32, .i64] r)
 (h : ∀ i r, rows[i]? = some r → ∃ b off, a = some ⟨b, off, none⟩ ∧ b < w.heap.size ∧ ∀ j u, r[j]? = some u → w.cell? ⟨b, off + i * 11 + j, none⟩ = some u) : RowsX w a (rows.map toStp) := by
 intro i p hp
 rw [List.getElem?_map, Option.map_eq_some_iff] at hp
 obtain ⟨r, hr, rfl⟩ := hp
 obtain ⟨b, off, ha, hb, hc⟩ := h i r hr
 have hz := toStp_cells (hI r (List.mem_of_getElem? hr))
 refine ⟨hz.2, b, off, ha, hb, fun j u hj => hc j u ?_⟩
 rw [hz.1] at hj
 exact hj
theorem plays_any (w : World) (ix s : Int) (a : Option Addr) (cap : Nat) (rows : List (List Value)) (hI : ∀ r ∈ rows, Flat.Ints [.i64, .u32, .i32, .i32, .i32, .i32, .i32, .i32, .i32, .i32, .i64] r)
 (h : ∀ i r, rows[i]? = some r → ∃ b off, a = some ⟨b, off, none⟩ ∧ b < w.heap.size ∧ ∀ j u, r[j]? = some u → w.cell? ⟨b, off + i * 11 + j, none⟩ = some u) (hl : rows.length * 56 ≤ 140737488351232) :
 Calls Tryz.prog 3 #[.int .i64 ix, .int .i64 s, .slice a rows.length cap] w fun e w' => e = .returned (.bool true) ∧ Below w.heap.size w w' := by
 by_cases hf : 0 ≤ ix ∧ ix ≤ 2 ∧ Size s
 ·have := plays_yes w ix s hf a cap (rows.map toStp) (rows_of hI h) (by rw [List.length_map]; exact hl)
  rw [List.length_map] at this
  refine this.mono ?_
  rintro e w' ⟨he, hk⟩
  exact ⟨he, hk.below (Nat.le_refl _) (fun k hk h => Z8)⟩
 ·refine (plays_no w ix s hf _).mono ?_
  rintro e w' ⟨he, hk⟩
  exact ⟨he, hk.below (Nat.le_refl _) (fun _ _ h => h)⟩
end Fq
end Go.Proofs.YtdbpfbokfmpgcaaGreat
