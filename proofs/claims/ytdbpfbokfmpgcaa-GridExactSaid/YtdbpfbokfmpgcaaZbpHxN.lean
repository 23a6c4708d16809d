/-
HxN: what is kept, and what a round of GridExact leaves: no code in sight.
-/
import Derived.Test.YtdbpfbokfmpgcaaZboHxM
namespace Go.Proofs.Ytdbpfbokfmpgcaa
open Go.RowKit Go.Shelf
set_option linter.unusedVariables false
set_option linter.unusedSimpArgs false
set_option linter.ambiguousOpen false
namespace Gx
open Mem Gr Gs
/-- an iterator that was taken, with what it is to tell -/
structure KIt where
  vb : Nat
  va : Option Addr
  vc : Nat
  oa : Option Addr
  oc : Nat
  V : List Nat
def kf (x : KIt) : List Value := [.func (.func 35) #[] #[.pointer (some ⟨x.vb, 0, none⟩)], .slice x.oa x.V.length x.oc]
theorem kInfo : (Try.prog.info? 44).map (fun i => (i.zero, i.size, i.bytes)) = some (some (.agg #[.nilFunc, .slice none 0 0]), 2, 32) := by kernel_rfl
theorem elK : ElT Try.prog 30 44 kf 2 := by
  obtain ⟨i0, hi0, hz0, hz1, hz2⟩ := info_parts kInfo
  exact ⟨Try.underlying30, ⟨i0, _, hi0, hz0, hz1, by omega, rfl⟩, by decide, fun _ => rfl, fun x u hu => by simp [kf] at hu; rcases hu with rfl | rfl <;> rfl⟩
structure KOk (w : World) (F : Nat → Prop) (R : Nat) (x : KIt) : Prop where
  vb : Blk w x.vb 41 [.slice x.va x.V.length x.vc]
  vrow : w.ownsRow 0 31 1 (.slice x.va x.V.length x.vc) x.V.length (u32v x.V)
  orow : w.ownsRow 0 31 1 (.slice x.oa x.V.length x.oc) x.V.length (u32v x.V)
  len : x.V.length ≤ 1000000
  apart : ∀ k, (k = x.vb ∨ (Value.slice x.va x.V.length x.vc).ownBlock = some k ∨ (Value.slice x.oa x.V.length x.oc).ownBlock = some k) → k < w.heap.size ∧ ¬ F k ∧ k ≠ R
section
variable {w w' : World} {F F' : Nat → Prop} {R : Nat} {x : KIt}
theorem KOk.vals (h : KOk w F R x) : Vals 0 w x.vb x.V := ⟨Nat.zero_le _, x.va, x.vc, h.vb, h.vrow⟩
theorem KOk.step (h : KOk w F R x) (hk : Keeps (fun k => F k ∨ k = R) w w') (hF : ∀ k, F' k → F k ∨ w.heap.size ≤ k) : KOk w' F' R x := by
  have ap : ∀ k, (k = x.vb ∨ (Value.slice x.va x.V.length x.vc).ownBlock = some k ∨ (Value.slice x.oa x.V.length x.oc).ownBlock = some k) → ¬ (F k ∨ k = R) := fun k hk e => by
    obtain ⟨h1, h2, h3⟩ := h.apart k hk
    exact e.elim h2 h3
  refine ⟨h.vb.keeps hk (ap _ (.inl rfl)), owns_keeps h.vrow hk (fun k e => ap k (.inr (.inl e))), owns_keeps h.orow hk (fun k e => ap k (.inr (.inr e))), h.len, fun k hk' => ?_⟩
  obtain ⟨h1, h2, h3⟩ := h.apart k hk'
  refine ⟨Nat.lt_of_lt_of_le h1 hk.size, fun e => ?_, h3⟩
  rcases hF k e with e | e
  · exact h2 e
  · omega
theorem KOk.row (h : KOk w F R x) {base n : Nat} {v : Value} {xs : List Value} (hO : w.ownsRow base 44 2 v n xs) (hk : Keeps (fun k => v.ownBlock = some k) w w') : KOk w' F R x := by
  have hx : ∀ (m base : Nat) (u : Value) (ys : List Value), w.ownsRow base 31 1 u m ys → ∀ b, u.ownBlock = some b → ¬ v.ownBlock = some b := fun m base u ys hu b hb e => by
    rcases hu.2 with ⟨h0, _⟩ | ⟨g, cap, cur, hv, _, hh, _⟩
    · rw [h0] at hb; cases hb
    · rw [hv] at hb
      have e2 : g = b := by simpa [Value.ownBlock] using hb
      subst e2
      have hB : Blk w g 31 cur.toList := by unfold Blk; simpa using hh
      exact own_ne hO hB (by decide) e.symm
  refine ⟨h.vb.keeps hk (fun e => own_ne hO h.vb (by decide) e.symm), owns_keeps h.vrow hk (hx _ _ _ _ h.vrow), owns_keeps h.orow hk (hx _ _ _ _ h.orow), h.len, fun k hk' => ?_⟩
  obtain ⟨h1, h2, h3⟩ := h.apart k hk'
  exact ⟨Nat.lt_of_lt_of_le h1 hk.size, h2, h3⟩
end
theorem pr_row {w w' : World} {G R : Nat} {s : Int} {L : List (Nat × Bx)} {n : Nat} {F : Nat → Prop} (h : Pr w G R s L n F) {base m : Nat} {v : Value} {xs : List Value} (hO : w.ownsRow base 44 2 v m xs) (hk : Keeps (fun k => v.ownBlock = some k) w w') : Pr w' G R s L n F ∧ ∀ k, v.ownBlock = some k → ¬ F k ∧ k ≠ R := by
  obtain ⟨a, cp, h3⟩ := h.rg
  have hnot : ∀ k, v.ownBlock = some k → ¬ F k := fun k hk => by
    rcases hO.2 with ⟨h0, _⟩ | ⟨g, cap, cur, hv, _, hh, _⟩
    · rw [h0] at hk; cases hk
    · rw [hv] at hk
      have e2 : g = k := by simpa [Value.ownBlock] using hk
      subst e2
      have hB : Blk w g 44 cur.toList := by unfold Blk; simpa using hh
      exact h.gd.not_ hB (by decide)
  obtain ⟨cs, hcs⟩ := h.gd.blk
  have hnR : ¬ v.ownBlock = some R := fun e => own_ne hO h3.blk (by decide) e.symm
  have hg : Gd w' G s (inList L) n F := h.gd.keeps hk (fun e => own_ne hO hcs (by decide) e.symm) (fun k hF e => hnot k e hF)
  have hr : RG w' R s a cp L := h3.keeps hk hnR (fun k hk' e => by
    rcases h3.own.2 with ⟨h0, _⟩ | ⟨g, cap, cur, hv, _, hh, _⟩
    · rw [h0] at hk'; cases hk'
    · rw [hv] at hk'
      have e2 : g = k := by simpa [Value.ownBlock] using hk'
      subst e2
      have hB : Blk w g 68 cur.toList := by unfold Blk; simpa using hh
      exact own_ne hO hB (by decide) e.symm)
  exact ⟨⟨hg, ⟨a, cp, hr⟩, h.rise, h.len, h.right⟩, fun k hk' => ⟨hnot k hk', fun e => hnR (e ▸ hk')⟩⟩
/-- between two rounds -/
structure MI (w0 : World) (G R : Nat) (s : Int) (b1 i : Nat) (L : List (Nat × Bx)) (F : Nat → Prop) (l : List KIt) (la : Option Addr) (lc : Nat) (W : World) : Prop where
  pr : Pr W G R s L i F
  own : W.ownsRow b1 44 2 (.slice la l.length lc) l.length (l.flatMap kf)
  ok : ∀ x ∈ l, KOk W F R x
  fresh : ∀ k, F k → w0.heap.size ≤ k
  freshR : w0.heap.size ≤ R
  freshB : w0.heap.size ≤ b1
  keep : Keeps (fun k => w0.heap.size ≤ k) w0 W
section
variable {w0 W W' : World} {G R : Nat} {s : Int} {b1 i : Nat} {L : List (Nat × Bx)} {F : Nat → Prop} {l : List KIt} {la : Option Addr} {lc : Nat}
theorem MI.kd (h : MI w0 G R s b1 i L F l la lc W) (hk : Keeps (fun _ => False) W W') : MI w0 G R s b1 i L F l la lc W' :=
  ⟨h.pr.kd hk, owns_keeps h.own hk (fun _ _ h => h), fun x hx => (h.ok x hx).step (hk.mono (fun _ _ h => h.elim)) (fun _ h => .inl h), h.fresh, h.freshR, h.freshB, h.keep.then hk (fun _ _ h => h.elim)⟩
theorem MI.app (h : MI w0 G R s b1 i L F l la lc W) {x : KIt} {la' : Option Addr} {lc' : Nat} (hO : W'.ownsRow b1 44 2 (.slice la' (l ++ [x]).length lc') (l ++ [x]).length ((l ++ [x]).flatMap kf)) (hx : KOk W F R x)
    (hk : Keeps (fun k => (Value.slice la l.length lc).ownBlock = some k) W W') : MI w0 G R s b1 i L F (l ++ [x]) la' lc' W' := by
  obtain ⟨h1, h2⟩ := pr_row h.pr h.own hk
  refine ⟨h1, hO, fun y hy => ?_, h.fresh, h.freshR, h.freshB, h.keep.then hk (fun k _ e => ?_)⟩
  · rcases List.mem_append.1 hy with hy | hy
    · exact (h.ok y hy).row h.own hk
    · rw [List.mem_singleton.1 hy]; exact hx.row h.own hk
  · have := (h.own.lt k e).1; have := h.freshB; omega
theorem MI.step (h : MI w0 G R s b1 i L F l la lc W) (hs : Step2 G R s i F W W') : ∃ L' F', MI w0 G R s b1 (i + 1) L' F' l la lc W' := by
  obtain ⟨L', F', h1, h2, h3⟩ := hs
  refine ⟨L', F', h1, owns_keeps h.own h2 (fun k hk e => ?_), fun x hx => (h.ok x hx).step h2 h3, fun k hk => ?_, h.freshR, h.freshB, h.keep.then h2 (fun k _ e => ?_)⟩
  · obtain ⟨_, h5⟩ := pr_row h.pr h.own (Keeps.refl _ W)
    obtain ⟨h6, h7⟩ := h5 k hk
    exact e.elim h6 h7
  · rcases h3 k hk with e | e
    · exact h.fresh k e
    · have := h.keep.size; omega
  · rcases e with e | e
    · exact h.fresh k e
    · rw [e]; exact h.freshR
/-- what is taken now -/
theorem MI.taken (h : MI w0 G R s b1 i L F l la lc W) {w1 w2 : World} {VB : Nat} {V : List Nat} {oa : Option Addr} {oc : Nat} (hk1 : Keeps (fun _ => False) W w1) (hv : ∃ b, W.heap.size ≤ b ∧ Vals b w1 VB V) (hk2 : Keeps (fun _ => False) w1 w2) {b2 : Nat} (hb2 : W.heap.size ≤ b2)
    (hO : w2.ownsRow b2 31 1 (.slice oa V.length oc) V.length (u32v V)) (hl : V.length ≤ 1000000) : ∃ va vc, KOk w2 F R ⟨VB, va, vc, oa, oc, V⟩ := by
  obtain ⟨b, hb, h1, va, vc, h2, h3⟩ := hv
  have hz := hk2.size
  have hRl : R < W.heap.size := by obtain ⟨a, cp, h3⟩ := h.pr.rg; exact h3.blk.lt
  have key : ∀ k, W.heap.size ≤ k → k < w2.heap.size → k < w2.heap.size ∧ ¬ F k ∧ k ≠ R := fun k hk hk2 => ⟨hk2, fun e => by have := h.pr.gd.lt e; omega, by omega⟩
  refine ⟨va, vc, h2.keeps hk2 (fun h => h), own_mono (owns_keeps h3 hk2 (fun _ _ h => h)) (Nat.zero_le _), own_mono hO (Nat.zero_le _), hl, ?_⟩
  rintro k (rfl | e | e)
  · exact key _ (by omega) (by have := h2.lt; omega)
  · have h4 := h3.lt k e
    exact key _ (by omega) (by omega)
  · have h4 := hO.lt k e
    exact key _ (by omega) h4.2
end
/-! the steps that came in -/
structure Stp where
  kind : Int
  id : Nat
  b : Bx
  px : Int
  py : Int
  qx : Int
  qy : Int
def stC (t : Stp) : List Value := [.int .i64 t.kind, .int .u32 (t.id : Int), .int .i32 t.b.x0, .int .i32 t.b.y0, .int .i32 t.b.x1, .int .i32 t.b.y1, .int .i32 t.px, .int .i32 t.py, .int .i32 t.qx, .int .i32 t.qy]
def RowsS (w : World) (a : Option Addr) (rows : List Stp) : Prop := ∀ (i : Nat) t, rows[i]? = some t → ∃ g off, a = some ⟨g, off, none⟩ ∧ g < w.heap.size ∧ ∀ j u, (stC t)[j]? = some u → w.cell? ⟨g, off + i * 10 + j, none⟩ = some u
theorem RowsS.keeps {w w' : World} {a : Option Addr} {rows : List Stp} (h : RowsS w a rows) (hk : Keeps (fun k => w.heap.size ≤ k) w w') {i : Nat} {t : Stp} (ht : rows[i]? = some t) : ∃ g off, a = some ⟨g, off, none⟩ ∧ g < w.heap.size ∧ ∀ j u, (stC t)[j]? = some u → w'.cell? ⟨g, off + i * 10 + j, none⟩ = some u := by
  obtain ⟨g, off, h1, h2, h3⟩ := h i t ht
  exact ⟨g, off, h1, h2, fun j u hj => hk.cell (h3 j u hj) (by simp; omega)⟩
end Gx
end Go.Proofs.Ytdbpfbokfmpgcaa
