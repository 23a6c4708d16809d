/-
IterQ: all ranges over a function from one law. A range over a function, by footprints: what the loop's body may write, what the iterator keeps.
-/
import Derived.Test.YtdaindihobfokaaGreatDoorZaaMbPMem
import Derived.RangeFuncNested
import Derived.RangeFuncBound
import Derived.RangeFuncCalls
import Derived.RangeFuncLeaves
import Derived.OwnWalkIn
import Derived.TacticsInMore
import Derived.LoopNIn
import Derived.LoopIn
namespace Go.Proofs.YtdaindihobfokaaGreatDoor
open Go.RowKit
namespace Mem
/-- from w to w' only S was written, of what there was; the new footprint holds new blocks besides. -/
def Foot (S S' : Nat → Prop) (w w' : World) : Prop := Keeps S w w' ∧ ∀ k, S' k → S k ∨ w.heap.size ≤ k
def Inb (S : Nat → Prop) (w : World) : Prop := ∀ k, S k → k < w.heap.size
section
variable {S S' S'' T : Nat → Prop} {w w' w'' : World}
theorem Foot.refl (S : Nat → Prop) (w : World) : Foot S S w w := ⟨Keeps.refl _ _, fun _ h => .inl h⟩
theorem Foot.trans (h : Foot S S' w w') (k : Foot S' S'' w' w'') : Foot S S'' w w'' :=
  ⟨h.1.then k.1 (fun i hi hs => (h.2 i hs).resolve_right (by omega)), fun i hi => by
    rcases k.2 i hi with h1 | h1
    · exact h.2 i h1
    · exact .inr (Nat.le_trans h.1.size h1)⟩
theorem Foot.same (h : Keeps S w w') : Foot S S w w' := ⟨h, fun _ h => .inl h⟩
theorem Inb.mono (h : Inb S w) (hs : w.heap.size ≤ w'.heap.size) : Inb S w' := fun k hk => Nat.lt_of_lt_of_le (h k hk) hs
end
/-- J abides what is written outside of its footprint, from block b on. -/
def Stab {β : Type} (b : Nat) (J : β → (Nat → Prop) → World → Prop) : Prop :=
  ∀ s S (T : Nat → Prop) (W W' : World), J s S W → Inb S W → Keeps T W W' → (∀ k, S k → ¬ T k) → (∀ k, T k → b ≤ k) → J s S W'
theorem Stab.mono {β : Type} {b b' : Nat} {J : β → (Nat → Prop) → World → Prop} (h : Stab b J) (hb : b ≤ b') : Stab b' J :=
  fun s S T W W' hj hi hk hd ht => h s S T W W' hj hi hk hd (fun k hk' => Nat.le_trans hb (ht k hk'))
/-- how a round ends -/
def RoundEnd {α : Type} (J Jx : List α → (Nat → Prop) → World → Prop) (xs : List α) (S : Nat → Prop) (W : World) (e : Ending) (W' : World) : Prop :=
  ∃ S', Foot S S' W W' ∧ Inb S' W' ∧ ((e = .returned (.bool true) ∧ J xs S' W') ∨ (e = .returned (.bool false) ∧ Jx xs S' W'))
def SeqEnd {α : Type} (J Jx : List α → (Nat → Prop) → World → Prop) (xs : List α) (S : Nat → Prop) (W : World) (e : Ending) (W' : World) : Prop :=
  (∃ v, e = .returned v) ∧ ∃ S', Foot S S' W W' ∧ Inb S' W' ∧ (J xs S' W' ∨ ∃ pre, pre <+: xs ∧ Jx pre S' W')
/-- AN ITERATOR's CONTRACT at the world W: it hands out xs, in order, or stops where a round says so. -/
def Gives {α : Type} (P : Program) (n : Nat) (gf : Nat) (lb : Array Value) (encs : α → Array Value) (xs : List α) (W : World) (A : (Nat → Prop) → Prop) : Prop :=
  ∀ (l : Nat) (J Jx : List α → (Nat → Prop) → World → Prop) (S : Nat → Prop), A S → Stab W.heap.size J → Stab W.heap.size Jx → Inb S W →
    (∀ pre x rest S1 W1, xs = pre ++ x :: rest → J pre S1 W1 → Inb S1 W1 → YieldAt Fence.wide (n - 1) P l (encs x) W1 (RoundEnd J Jx (pre ++ [x]) S1 W1)) →
    J [] S W → CallsIn Fence.wide n P gf (#[.func (.yield l) #[] #[]] ++ lb) W (SeqEnd J Jx xs S W)
/-- how a loop's body may be left -/
def Left {α : Type} (I : List α → (Nat → Prop) → World → Prop) (Ix : Code → List α → (Nat → Prop) → World → Prop) (xs : List α) (S : Nat → Prop) (W : World) : Exit → Act → World → Prop
  | .normal, _, W' => ∃ S', Foot S S' W W' ∧ Inb S' W' ∧ I xs S' W'
  | .ret, _, W' => ∃ S', Foot S S' W W' ∧ Inb S' W' ∧ Ix .ret xs S' W'
  | .exit id, _, W' => ∃ S', Foot S S' W W' ∧ Inb S' W' ∧ Ix (.exit id) xs S' W'
  | .goto t, _, W' => ∃ S', Foot S S' W W' ∧ Inb S' W' ∧ Ix (.goto t) xs S' W'
  | .panic _, _, _ => False
  | .outgrown, _, _ => False
theorem keeps_putObj (w : World) (l : Nat) (o : Obj) : Keeps (fun k => k = l) w (w.putObj l o) :=
  Keeps.mono (Keeps.of_grown (grownBy_putObj' w l o)) (fun k _ h => by injection h)
/-- AN ITERATOR's CONTRACT where it may write blocks O of its own ahead of its first round. -/
def GivesO {α : Type} (P : Program) (n : Nat) (gf : Nat) (lb : Array Value) (encs : α → Array Value) (xs : List α) (W : World) (A : (Nat → Prop) → Prop) (O : Nat → Prop) : Prop :=
  ∀ (l : Nat) (J Jx : List α → (Nat → Prop) → World → Prop) (S : Nat → Prop), A S → Stab W.heap.size J → Stab W.heap.size Jx → Inb S W → (∀ W1 W2, J [] S W1 → Inb S W1 → Keeps O W1 W2 → J [] S W2) →
    (∀ pre x rest S1 W1, xs = pre ++ x :: rest → J pre S1 W1 → Inb S1 W1 → YieldAt Fence.wide (n - 1) P l (encs x) W1 (RoundEnd J Jx (pre ++ [x]) S1 W1)) →
    J [] S W → CallsIn Fence.wide n P gf (#[.func (.yield l) #[] #[]] ++ lb) W (fun e W' => (∃ v, e = .returned v) ∧ ∃ S', Foot (fun k => S k ∨ O k) S' W W' ∧ Inb S' W' ∧ (J xs S' W' ∨ ∃ pre, pre <+: xs ∧ Jx pre S' W'))
theorem GivesO.any {α : Type} {P : Program} {n n' gf : Nat} {lb : Array Value} {encs : α → Array Value} {xs : List α} {W : World} {A : (Nat → Prop) → Prop} {O : Nat → Prop} (h : GivesO P n gf lb encs xs W A O) : GivesO P n' gf lb encs xs W A O := by
  intro l J Jx S hA hJ hJx hin hO hY h0
  refine callsIn_wide.2 (callsIn_wide.1 (h l J Jx S hA hJ hJx hin hO (fun pre x rest S1 W1 e hj hi => ?_) h0))
  obtain ⟨fn, tmps, assign, body, hy, hF, hR⟩ := hY pre x rest S1 W1 e hj hi
  exact ⟨fn, tmps, assign, body, hy, hF, fun c cs _ => hR c cs (room_wide _)⟩
/-- AN ITERATOR's CONTRACT: behind pre it may hand out x where Nx pre x; it ends where Fin. -/
def GivesP {α : Type} (P : Program) (n : Nat) (gf : Nat) (lb : Array Value) (encs : α → Array Value) (Nx : List α → α → Prop) (Fin : List α → Prop) (W : World) (A : (Nat → Prop) → Prop) (O : Nat → Prop) : Prop :=
  ∀ (l : Nat) (J Jx : List α → (Nat → Prop) → World → Prop) (S : Nat → Prop), A S → Stab W.heap.size J → Stab W.heap.size Jx → Inb S W → (∀ W1 W2, J [] S W1 → Inb S W1 → Keeps O W1 W2 → J [] S W2) →
    (∀ pre x S1 W1, Nx pre x → J pre S1 W1 → Inb S1 W1 → YieldAt Fence.wide (n - 1) P l (encs x) W1 (RoundEnd J Jx (pre ++ [x]) S1 W1)) →
    J [] S W → CallsIn Fence.wide n P gf (#[.func (.yield l) #[] #[]] ++ lb) W (fun e W' => (∃ v, e = .returned v) ∧ ∃ S', Foot (fun k => S k ∨ O k) S' W W' ∧ Inb S' W' ∧ ((∃ ys, Fin ys ∧ J ys S' W') ∨ ∃ pre, Jx pre S' W'))
theorem GivesP.any {α : Type} {P : Program} {n n' gf : Nat} {lb : Array Value} {encs : α → Array Value} {Nx : List α → α → Prop} {Fin : List α → Prop} {W : World} {A : (Nat → Prop) → Prop} {O : Nat → Prop} (h : GivesP P n gf lb encs Nx Fin W A O) : GivesP P n' gf lb encs Nx Fin W A O := by
  intro l J Jx S hA hJ hJx hin hO hY h0
  refine callsIn_wide.2 (callsIn_wide.1 (h l J Jx S hA hJ hJx hin hO (fun pre x S1 W1 e hj hi => ?_) h0))
  obtain ⟨fn, tmps, assign, body, hy, hF, hR⟩ := hY pre x S1 W1 e hj hi
  exact ⟨fn, tmps, assign, body, hy, hF, fun c cs _ => hR c cs (room_wide _)⟩
/-- an iterator over a list known ahead -/
theorem GivesP.of {α : Type} {P : Program} {n gf : Nat} {lb : Array Value} {encs : α → Array Value} {xs : List α} {W : World} {A : (Nat → Prop) → Prop} (h : Gives P n gf lb encs xs W A) : GivesP P n gf lb encs (fun pre x => ∃ rest, xs = pre ++ x :: rest) (fun ys => ys = xs) W A (fun _ => False) := by
  intro l J Jx S hA hJ hJx hin hO hY h0
  refine (h l J Jx S hA hJ hJx hin (fun pre x rest S1 W1 e hj hi => hY pre x S1 W1 ⟨rest, e⟩ hj hi) h0).mono ?_
  rintro e W' ⟨hv, S', hf, hi, hr⟩
  refine ⟨hv, S', ⟨hf.1.mono (fun _ _ h => .inl h), fun k hk => (hf.2 k hk).imp .inl id⟩, hi, ?_⟩
  rcases hr with hr | ⟨pre, _, hr⟩
  · exact .inl ⟨xs, rfl, hr⟩
  · exact .inr ⟨pre, hr⟩
section
variable {P : Program} {n : Nat}
theorem wpIn_rangeP {α : Type} {g : Operand} {ps : Array Tmp} {assign body : Code} {Q : Exit → Act → World → Prop} {a : Act} {w : World}
    {gf : Nat} {lb : Array Value} (hg : a.eval g = .func (.func gf) #[] lb) (eg : ∀ args w, (callFunc gf args).run P w = .ok (.enter gf args) w)
    {encs : α → Array Value} {Nx : List α → α → Prop} {Fin : List α → Prop} {A : (Nat → Prop) → Prop} {O : Nat → Prop} (hO : ∀ k, O k → k < w.heap.size) (hseq : ∀ W1, Keeps (fun _ => False) w W1 → GivesP P (n - 1) gf lb encs Nx Fin W1 A O) (hps : ∀ x, (encs x).size = ps.size)
    (I : List α → (Nat → Prop) → World → Prop) (Ix : Code → List α → (Nat → Prop) → World → Prop) (hI : Stab w.heap.size I) (hIx : ∀ c, Stab w.heap.size (Ix c))
    (S0 : Nat → Prop) (hS0 : Inb S0 w) (h0 : I [] S0 w) (hIO : ∀ S W W', I [] S W → Inb S W → Keeps O W W' → I [] S W') (hA : ∀ S, (∀ k, S k → S0 k ∨ w.heap.size ≤ k) → A S)
    (Mid : List α × α × Act → (Nat → Prop) → World → Prop) (hMid : Stab w.heap.size Mid)
    (hassign : ∀ l pre x S W, Nx pre x → I pre S W → Inb S W → w.heap.size < W.heap.size →
      assign.wpIn (Fence.wide.inRound l) (n - 1 - 1) P (Exit.then (fun a1 W1 => ∃ S1, Foot S S1 W W1 ∧ Inb S1 W1 ∧ Mid (pre, x, a1) S1 W1) (fun _ _ _ => False))
        { tmps := (ps.zip (encs x)).foldl (fun t (p, v) => t.setIfInBounds p v) a.tmps, defers := [] } W)
    (hbody : ∀ l pre x a1 S W, Nx pre x → Mid (pre, x, a1) S W → Inb S W → w.heap.size < W.heap.size → (w.heap.size ≤ l ∧ ¬ S l ∧ ∃ r, W.heap[l]? = some (.loop r)) → body.wpIn (Fence.wide.inRound l) (n - 1 - 1) P (Left I Ix (pre ++ [x]) S W) a1 W)
    (hdone : ∀ (D : Nat) ys S' W', Fin ys → w.heap.size ≤ D → ¬ S' D → Foot (fun k => S0 k ∨ O k) S' w W' → Inb S' W' → I ys S' W' → W'.heap[D]? = some (.deferred (some [])) →
      Q .normal { a with defers := { target := .collected D, args := #[] } :: a.defers } W')
    (hstop : ∀ (D : Nat) (c : Code) pre S' W', w.heap.size ≤ D → ¬ S' D → Foot (fun k => S0 k ∨ O k) S' w W' → Inb S' W' → Ix c pre S' W' → W'.heap[D]? = some (.deferred (some [])) →
      c.wpIn Fence.wide n P Q { a with defers := { target := .collected D, args := #[] } :: a.defers } W') :
    (Code.rangeFunc g ps assign body).wpIn Fence.wide n P Q a w := by
  refine wpIn_rangeFunc ?_
  intro fn hfn
  obtain ⟨rec, hrec⟩ : ∃ rec : LoopState → Option Code → Loop, rec = fun st pe => { state := st, pending := pe, fn, tmps := a.tmps, params := ps, assign, body, defers := w.heap.size } := ⟨_, rfl⟩
  obtain ⟨W1, hW1⟩ : ∃ W1, (w.alloc (.deferred (some []))).alloc (.loop (rec .ready none)) = W1 := ⟨_, rfl⟩
  have hz1 : W1.heap.size = w.heap.size + 2 := by rw [← hW1]; simp
  have hL1 : W1.heap[w.heap.size + 1]? = some (.loop (rec .ready none)) := by
    rw [← hW1]; have := World.alloc_heap_new (w.alloc (.deferred (some []))) (.loop (rec .ready none)); rwa [World.size_alloc] at this
  have hK1 : W1.heap[w.heap.size]? = some (.deferred (some [])) := by
    rw [← hW1]; exact (Below.heap_alloc _ _ _ (by simp)).trans (World.alloc_heap_new w _)
  have hk1 : Keeps (fun _ => False) w W1 := by rw [← hW1]; exact ((Keeps.refl _ w).alloc _).alloc _
  have hI1 : I [] S0 W1 := hI [] S0 _ w W1 h0 hS0 hk1 (fun _ _ h => h) (fun _ h => h.elim)
  refine ⟨w.heap.size + 1, [{ target := .collected w.heap.size, args := #[] }], W1, { target := .fn (.func gf) lb, args := #[.func (.yield (w.heap.size + 1)) #[] #[]] }, W1, gf,
    #[.func (.yield (w.heap.size + 1)) #[] #[]] ++ lb, W1, ?_, ?_, ?_, ?_, fun h => by simp [Fence.wide] at h, ?_⟩
  · rw [← hW1, hrec]; exact run_enterLoop_outer _ _ _ _ _
  · simp only [resolve, hg]
    simp [go_sem]
  · intro f' _; trivial
  · simp [invoke, go_sem, eg]
  · -- the two facts of book-keeping ride beside the invariant
    have jI : ∀ {β : Type} {K : β → (Nat → Prop) → World → Prop}, Stab w.heap.size K → ∀ (o : Obj), Stab W1.heap.size
        (fun s S' W => ∃ S, (∀ k, S' k ↔ S k ∨ k = w.heap.size + 1) ∧ ¬ S (w.heap.size + 1) ∧ ¬ S w.heap.size ∧ Inb S W ∧ K s S W ∧ W.heap[w.heap.size + 1]? = some o ∧ W.heap[w.heap.size]? = some (.deferred (some []))) := by
      intro β K hK o s S' T A B hj hi hk hd ht
      obtain ⟨S, h1, h2, h3, h4, h5, h6, h7⟩ := hj
      have hTl : ∀ k, k < W1.heap.size → ¬ T k := fun k hk' hT => by have := ht k hT; omega
      refine ⟨S, h1, h2, h3, h4.mono hk.size, hK s S T A B h5 h4 hk (fun k hs => hd k ((h1 k).2 (.inl hs))) (fun k hT => by have := ht k hT; omega), ?_, ?_⟩
      · exact (hk.block _ (Array.getElem?_eq_some_iff.1 h6).1 (hTl _ (by omega))).trans h6
      · exact (hk.block _ (Array.getElem?_eq_some_iff.1 h7).1 (hTl _ (by omega))).trans h7
    have hx : Stab W1.heap.size (fun pre S' W => ∃ c, ∃ S, (∀ k, S' k ↔ S k ∨ k = w.heap.size + 1) ∧ ¬ S (w.heap.size + 1) ∧ ¬ S w.heap.size ∧ Inb S W ∧ Ix c pre S W ∧ W.heap[w.heap.size + 1]? = some (.loop (rec .done (some c))) ∧ W.heap[w.heap.size]? = some (.deferred (some []))) := by
      intro s S' T A B hj hi hk hd ht
      obtain ⟨c, hj⟩ := hj
      exact ⟨c, jI (hIx c) _ s S' T A B hj hi hk hd ht⟩
    refine (hseq W1 hk1 (w.heap.size + 1) _ _ (fun k => S0 k ∨ k = w.heap.size + 1) (hA _ (fun k hk => hk.imp id (fun e => by omega))) (jI hI (.loop (rec .ready none))) hx
      (fun k hk => hk.elim (fun h => by have := hS0 k h; omega) (fun e => by omega)) (fun A B ⟨S, e1, e2, e3, hin, hi, hl, hk⟩ _ hk' => ⟨S, e1, e2, e3, hin.mono hk'.size, hIO S A B hi hin hk', (hk'.block _ (Array.getElem?_eq_some_iff.1 hl).1 (fun h => by have := hO _ h; omega)).trans hl, (hk'.block _ (Array.getElem?_eq_some_iff.1 hk).1 (fun h => by have := hO _ h; omega)).trans hk⟩) ?_
      ⟨S0, fun k => Iff.rfl, fun h => by have := hS0 _ h; omega, fun h => by have := hS0 _ h; omega, hS0.mono hk1.size, hI1, hL1, hK1⟩).mono ?_
    · -- one round
      rintro pre x S' W hxs ⟨S, e1, e2, e3, hin, hi, hl, hk⟩ hin'
      have hlt : w.heap.size + 1 < W.heap.size := (Array.getElem?_eq_some_iff.1 hl).1
      have hy := run_yield (P := P) (args := encs x) hl (by rw [hrec]; exact hps x)
      rw [hrec] at hy
      refine ⟨fn, _, assign, body, hy, roundIn_of_wpIn hfn (wpIn_mono (hassign _ pre x S W hxs hi hin (by omega)) ?_)⟩
      intro e a1 Wa hpost
      cases e with
      | normal =>
        obtain ⟨Sa, hfa, hina, hmid⟩ := hpost
        have hla : Wa.heap[w.heap.size + 1]? = some (.loop (rec .ready none)) := (hfa.1.block _ hlt e2).trans hl
        have hka : Wa.heap[w.heap.size]? = some (.deferred (some [])) := (hfa.1.block _ (by omega) e3).trans hk
        have hSaL : ¬ Sa (w.heap.size + 1) := fun h => (hfa.2 _ h).elim e2 (fun h => by omega)
        have hSaD : ¬ Sa w.heap.size := fun h => (hfa.2 _ h).elim e3 (fun h => by omega)
        have hlta : w.heap.size + 1 < Wa.heap.size := (Array.getElem?_eq_some_iff.1 hla).1
        have hbr := run_beginRound (P := P) hla (by rw [hrec])
        obtain ⟨ob, hob⟩ : ∃ ob, ob = Obj.loop { rec .ready none with state := .busy } := ⟨_, rfl⟩
        rw [← hob] at hbr
        have hkp1 := keeps_putObj Wa (w.heap.size + 1) ob
        refine ⟨_, hbr, ?_⟩
        have hmid2 := hMid _ Sa _ _ _ hmid hina hkp1 (fun k hs e => hSaL (e ▸ hs)) (fun k e => by omega)
        have hl2 : (Wa.putObj (w.heap.size + 1) ob).heap[w.heap.size + 1]? = some (.loop { rec .ready none with state := .busy }) := by rw [← hob]; exact World.putObj_heap_same hlta
        have hk2 : (Wa.putObj (w.heap.size + 1) ob).heap[w.heap.size]? = some (.deferred (some [])) := (World.putObj_heap_other (by omega)).trans hka
        have hlt2 : w.heap.size + 1 < (Wa.putObj (w.heap.size + 1) ob).heap.size := (Array.getElem?_eq_some_iff.1 hl2).1
        refine wpIn_mono (hbody _ pre x a1 Sa _ hxs hmid2 (hina.mono hkp1.size) (by omega) ⟨by omega, hSaL, _, hl2⟩) ?_
        generalize hWb : Wa.putObj (w.heap.size + 1) ob = Wb at *
        have fin : ∀ (jump : Option Code) (S2 : Nat → Prop) (W3 : World), Foot Sa S2 Wb W3 → Inb S2 W3 →
            (Instr.endRound (w.heap.size + 1) jump).run P W3 = .ok (.bool jump.isNone) (W3.putObj (w.heap.size + 1) (.loop (rec (if jump.isNone then .ready else .done) jump))) ∧
            (W3.putObj (w.heap.size + 1) (.loop (rec (if jump.isNone then .ready else .done) jump))).heap[w.heap.size + 1]? = some (.loop (rec (if jump.isNone then .ready else .done) jump)) ∧
            (W3.putObj (w.heap.size + 1) (.loop (rec (if jump.isNone then .ready else .done) jump))).heap[w.heap.size]? = some (.deferred (some [])) ∧
            ¬ S2 (w.heap.size + 1) ∧ ¬ S2 w.heap.size ∧ Foot S' (fun k => S2 k ∨ k = w.heap.size + 1) W (W3.putObj (w.heap.size + 1) (.loop (rec (if jump.isNone then .ready else .done) jump))) ∧
            Inb (fun k => S2 k ∨ k = w.heap.size + 1) (W3.putObj (w.heap.size + 1) (.loop (rec (if jump.isNone then .ready else .done) jump))) ∧
            Inb S2 (W3.putObj (w.heap.size + 1) (.loop (rec (if jump.isNone then .ready else .done) jump))) ∧
            (∀ (K : (Nat → Prop) → World → Prop), (∀ S (T : Nat → Prop) (W W' : World), K S W → Inb S W → Keeps T W W' → (∀ k, S k → ¬ T k) → (∀ k, T k → w.heap.size ≤ k) → K S W') → K S2 W3 → K S2 (W3.putObj (w.heap.size + 1) (.loop (rec (if jump.isNone then .ready else .done) jump)))) := by
          intro jump S2 W3 hf hin2
          have hl3 := (hf.1.block _ hlt2 hSaL).trans hl2
          have hk3 := (hf.1.block _ (by omega) hSaD).trans hk2
          have hS2L : ¬ S2 (w.heap.size + 1) := fun h => (hf.2 _ h).elim hSaL (fun h => by omega)
          have hS2D : ¬ S2 w.heap.size := fun h => (hf.2 _ h).elim hSaD (fun h => by omega)
          have hr := run_endRound (P := P) jump hl3
          have hlt3 : w.heap.size + 1 < W3.heap.size := (Array.getElem?_eq_some_iff.1 hl3).1
          have hkp2 := keeps_putObj W3 (w.heap.size + 1) (.loop (rec (if jump.isNone then .ready else .done) jump))
          have hin3 := hin2.mono hkp2.size
          refine ⟨by rw [hrec] at hr ⊢; exact hr, World.putObj_heap_same hlt3, (World.putObj_heap_other (by omega)).trans hk3, hS2L, hS2D, ?_, ?_, hin3, ?_⟩
          · have hs0 : ∀ k, S k → S' k := fun k h => (e1 k).2 (.inl h)
            have hsL : S' (w.heap.size + 1) := (e1 _).2 (.inr rfl)
            have t1 : Foot S' (fun k => Sa k ∨ k = w.heap.size + 1) W Wa := ⟨hfa.1.mono (fun k _ h => hs0 k h), fun k h => h.elim (fun h => (hfa.2 k h).imp (hs0 k) id) (fun e => .inl (e ▸ hsL))⟩
            have t2 : Foot (fun k => Sa k ∨ k = w.heap.size + 1) (fun k => Sa k ∨ k = w.heap.size + 1) Wa Wb := Foot.same (hkp1.mono (fun k _ e => .inr e))
            have t3 : Foot (fun k => Sa k ∨ k = w.heap.size + 1) (fun k => S2 k ∨ k = w.heap.size + 1) Wb W3 := ⟨hf.1.mono (fun k _ h => .inl h), fun k h => h.elim (fun h => (hf.2 k h).imp .inl id) (fun e => .inl (.inr e))⟩
            exact ((t1.trans t2).trans t3).trans (Foot.same (hkp2.mono (fun k _ e => .inr e)))
          · intro k h
            rcases h with h | h
            · exact hin3 k h
            · have := hkp2.size; omega
          · intro K hK hk
            exact hK S2 _ W3 _ hk hin2 hkp2 (fun k hs e => hS2L (e ▸ hs)) (fun k e => by omega)
        rintro e a3 W3 hp
        cases e with
        | normal =>
          obtain ⟨S2, hf, hin2, hi2⟩ := hp
          obtain ⟨g1, g2, g3, g4, g5, g6, g7, g8, g9⟩ := fin none S2 W3 hf hin2
          exact ⟨_, _, g1, _, g6, g7, .inl ⟨rfl, S2, fun k => Iff.rfl, g4, g5, g8, g9 (I (pre ++ [x])) (hI _) hi2, g2, g3⟩⟩
        | ret =>
          obtain ⟨S2, hf, hin2, hi2⟩ := hp
          obtain ⟨g1, g2, g3, g4, g5, g6, g7, g8, g9⟩ := fin (some .ret) S2 W3 hf hin2
          exact ⟨_, _, g1, _, g6, g7, .inr ⟨rfl, .ret, S2, fun k => Iff.rfl, g4, g5, g8, g9 (Ix .ret (pre ++ [x])) (hIx _ _) hi2, g2, g3⟩⟩
        | exit id =>
          obtain ⟨S2, hf, hin2, hi2⟩ := hp
          obtain ⟨g1, g2, g3, g4, g5, g6, g7, g8, g9⟩ := fin (some (.exit id)) S2 W3 hf hin2
          exact ⟨_, _, g1, _, g6, g7, .inr ⟨rfl, .exit id, S2, fun k => Iff.rfl, g4, g5, g8, g9 (Ix (.exit id) (pre ++ [x])) (hIx _ _) hi2, g2, g3⟩⟩
        | goto t =>
          obtain ⟨S2, hf, hin2, hi2⟩ := hp
          obtain ⟨g1, g2, g3, g4, g5, g6, g7, g8, g9⟩ := fin (some (.goto t)) S2 W3 hf hin2
          exact ⟨_, _, g1, _, g6, g7, .inr ⟨rfl, .goto t, S2, fun k => Iff.rfl, g4, g5, g8, g9 (Ix (.goto t) (pre ++ [x])) (hIx _ _) hi2, g2, g3⟩⟩
        | panic ch => exact hp.elim
        | outgrown => exact hp.elim
      | ret => exact hpost.elim
      | exit id => exact hpost.elim
      | goto t => exact hpost.elim
      | panic ch => exact hpost.elim
      | outgrown => exact hpost.elim
    · -- behind the iterator
      rintro e W2 ⟨⟨v, rfl⟩, S', hf, hin', h⟩
      have foot : ∀ S (o : Obj), (∀ k, S' k ↔ S k ∨ k = w.heap.size + 1) → ¬ S (w.heap.size + 1) → Foot (fun k => S0 k ∨ O k) S w (W2.putObj (w.heap.size + 1) o) := by
        intro S o h1 h2
        refine ⟨?_, fun k hk => ?_⟩
        · exact ((hk1.mono (fun k _ h => h.elim)).then hf.1 (fun i hi hs => hs.elim (fun h => .inl (h.resolve_right (by omega))) .inr)).then (keeps_putObj W2 (w.heap.size + 1) o) (fun i hi e => by omega)
        · rcases hf.2 k ((h1 k).2 (.inl hk)) with ((h | h) | h) | h
          · exact .inl (.inl h)
          · exact .inr (by omega)
          · exact .inl (.inr h)
          · exact .inr (by omega)
      rcases h with ⟨ys, hys, S, e1, e2, e3, hin, hi, hl, hk⟩ | ⟨pre, c, S, e1, e2, e3, hin, hi, hl, hk⟩
      · exact ⟨none, _, by have := run_endLoop (P := P) hl (by rw [hrec]; simp); rw [hrec] at this; exact this,
          hdone _ ys S _ hys (Nat.le_refl _) e3 (foot S _ e1 e2) (hin.mono (keeps_putObj W2 _ _).size) (hI _ S _ _ _ hi hin (keeps_putObj W2 _ _) (fun k hs e => e2 (e ▸ hs)) (fun k e => by omega)) ((World.putObj_heap_other (by omega)).trans hk)⟩
      · exact ⟨some c, _, by have := run_endLoop (P := P) hl (by rw [hrec]; simp); rw [hrec] at this; exact this,
          hstop _ c pre S _ (Nat.le_refl _) e3 (foot S _ e1 e2) (hin.mono (keeps_putObj W2 _ _).size) (hIx c _ S _ _ _ hi hin (keeps_putObj W2 _ _) (fun k hs e => e2 (e ▸ hs)) (fun k e => by omega)) ((World.putObj_heap_other (by omega)).trans hk)⟩
end
theorem left_pre {α : Type} {I : List α → (Nat → Prop) → World → Prop} {Ix : Code → List α → (Nat → Prop) → World → Prop} {xs ys : List α} {S : Nat → Prop} {W : World} (hp : ys <+: xs) : ∀ e a W', Left I Ix ys S W e a W' → Left I (fun c pre S W => Ix c pre S W ∧ pre <+: xs) ys S W e a W' := by
  intro e a W' h
  cases e with
  | normal => exact h
  | ret => obtain ⟨S', h1, h2, h3⟩ := h; exact ⟨S', h1, h2, h3, hp⟩
  | exit id => obtain ⟨S', h1, h2, h3⟩ := h; exact ⟨S', h1, h2, h3, hp⟩
  | goto t => obtain ⟨S', h1, h2, h3⟩ := h; exact ⟨S', h1, h2, h3, hp⟩
  | panic c => exact h
  | outgrown => exact h
theorem foot_no {S0 S' : Nat → Prop} {w W' : World} (h : Foot (fun k => S0 k ∨ False) S' w W') : Foot S0 S' w W' :=
  ⟨h.1.mono (fun _ _ h => h.resolve_right id), fun k hk => (h.2 k hk).imp (fun h => h.resolve_right id) id⟩
theorem GivesP.ofO {α : Type} {P : Program} {n gf : Nat} {lb : Array Value} {encs : α → Array Value} {xs : List α} {W : World} {A : (Nat → Prop) → Prop} {O : Nat → Prop} (h : GivesO P n gf lb encs xs W A O) : GivesP P n gf lb encs (fun pre x => ∃ rest, xs = pre ++ x :: rest) (fun ys => ys = xs) W A O := by
  intro l J Jx S hA hJ hJx hin hO hY h0
  refine (h l J Jx S hA hJ hJx hin hO (fun pre x rest S1 W1 e hj hi => hY pre x S1 W1 ⟨rest, e⟩ hj hi) h0).mono ?_
  rintro e W' ⟨hv, S', hf, hi, hr⟩
  refine ⟨hv, S', hf, hi, ?_⟩
  rcases hr with hr | ⟨pre, _, hr⟩
  · exact .inl ⟨xs, rfl, hr⟩
  · exact .inr ⟨pre, hr⟩
section
variable {P : Program} {n : Nat}
theorem wpIn_rangeH {α : Type} {g : Operand} {ps : Array Tmp} {assign body : Code} {Q : Exit → Act → World → Prop} {a : Act} {w : World}
    {gf : Nat} {lb : Array Value} (hg : a.eval g = .func (.func gf) #[] lb) (eg : ∀ args w, (callFunc gf args).run P w = .ok (.enter gf args) w)
    {encs : α → Array Value} {xs : List α} {A : (Nat → Prop) → Prop} (hseq : ∀ W1, Keeps (fun _ => False) w W1 → Gives P (n - 1) gf lb encs xs W1 A) (hps : ∀ x, (encs x).size = ps.size)
    (I : List α → (Nat → Prop) → World → Prop) (Ix : Code → List α → (Nat → Prop) → World → Prop) (hI : Stab w.heap.size I) (hIx : ∀ c, Stab w.heap.size (Ix c))
    (S0 : Nat → Prop) (hS0 : Inb S0 w) (h0 : I [] S0 w) (hA : ∀ S, (∀ k, S k → S0 k ∨ w.heap.size ≤ k) → A S)
    (Mid : List α × α × Act → (Nat → Prop) → World → Prop) (hMid : Stab w.heap.size Mid)
    (hassign : ∀ l pre x rest S W, xs = pre ++ x :: rest → I pre S W → Inb S W → w.heap.size < W.heap.size →
      assign.wpIn (Fence.wide.inRound l) (n - 1 - 1) P (Exit.then (fun a1 W1 => ∃ S1, Foot S S1 W W1 ∧ Inb S1 W1 ∧ Mid (pre, x, a1) S1 W1) (fun _ _ _ => False))
        { tmps := (ps.zip (encs x)).foldl (fun t (p, v) => t.setIfInBounds p v) a.tmps, defers := [] } W)
    (hbody : ∀ l pre x rest a1 S W, xs = pre ++ x :: rest → Mid (pre, x, a1) S W → Inb S W → w.heap.size < W.heap.size → (w.heap.size ≤ l ∧ ¬ S l ∧ ∃ r, W.heap[l]? = some (.loop r)) → body.wpIn (Fence.wide.inRound l) (n - 1 - 1) P (Left I Ix (pre ++ [x]) S W) a1 W)
    (hdone : ∀ (D : Nat) S' W', w.heap.size ≤ D → ¬ S' D → Foot S0 S' w W' → Inb S' W' → I xs S' W' → W'.heap[D]? = some (.deferred (some [])) →
      Q .normal { a with defers := { target := .collected D, args := #[] } :: a.defers } W')
    (hstop : ∀ (D : Nat) (c : Code) pre S' W', w.heap.size ≤ D → ¬ S' D → Foot S0 S' w W' → Inb S' W' → pre <+: xs → Ix c pre S' W' → W'.heap[D]? = some (.deferred (some [])) →
      c.wpIn Fence.wide n P Q { a with defers := { target := .collected D, args := #[] } :: a.defers } W') :
    (Code.rangeFunc g ps assign body).wpIn Fence.wide n P Q a w :=
  wpIn_rangeP (O := fun _ => False) hg eg (fun _ hk => hk.elim) (Nx := fun pre x => ∃ rest, xs = pre ++ x :: rest) (Fin := fun ys => ys = xs) (fun W1 hk => GivesP.of (hseq W1 hk)) hps I (fun c pre S W => Ix c pre S W ∧ pre <+: xs) hI
    (fun c s S T W W' h hin hk hd ht => ⟨hIx c s S T W W' h.1 hin hk hd ht, h.2⟩) S0 hS0 h0 (fun S W W' h hin hk => hI [] S _ W W' h hin hk (fun _ _ h => h) (fun _ h => h.elim)) hA Mid hMid
    (fun l pre x S W ⟨rest, e⟩ => hassign l pre x rest S W e)
    (fun l pre x a1 S W ⟨rest, e⟩ h1 h2 h3 h4 => wpIn_mono (hbody l pre x rest a1 S W e h1 h2 h3 h4) (left_pre ⟨rest, by rw [e]; simp⟩))
    (fun D ys S' W' e h1 h2 h3 h4 h5 h6 => hdone D S' W' h1 h2 (foot_no h3) h4 (e ▸ h5) h6)
    (fun D c pre S' W' h1 h2 h3 h4 h5 h6 => hstop D c pre S' W' h1 h2 (foot_no h3) h4 h5.2 h5.1 h6)
theorem wpIn_range {α : Type} {g : Operand} {ps : Array Tmp} {assign body : Code} {Q : Exit → Act → World → Prop} {a : Act} {w : World}
    {gf : Nat} {lb : Array Value} (hg : a.eval g = .func (.func gf) #[] lb) (eg : ∀ args w, (callFunc gf args).run P w = .ok (.enter gf args) w)
    {encs : α → Array Value} {xs : List α} {A : (Nat → Prop) → Prop} (hseq : ∀ W1, Keeps (fun _ => False) w W1 → Gives P (n - 1) gf lb encs xs W1 A) (hps : ∀ x, (encs x).size = ps.size)
    (I : List α → (Nat → Prop) → World → Prop) (Ix : Code → List α → (Nat → Prop) → World → Prop) (hI : Stab w.heap.size I) (hIx : ∀ c, Stab w.heap.size (Ix c))
    (S0 : Nat → Prop) (hS0 : Inb S0 w) (h0 : I [] S0 w) (hA : ∀ S, (∀ k, S k → S0 k ∨ w.heap.size ≤ k) → A S)
    (Mid : List α × α × Act → (Nat → Prop) → World → Prop) (hMid : Stab w.heap.size Mid)
    (hassign : ∀ l pre x rest S W, xs = pre ++ x :: rest → I pre S W → Inb S W → w.heap.size < W.heap.size →
      assign.wpIn (Fence.wide.inRound l) (n - 1 - 1) P (Exit.then (fun a1 W1 => ∃ S1, Foot S S1 W W1 ∧ Inb S1 W1 ∧ Mid (pre, x, a1) S1 W1) (fun _ _ _ => False))
        { tmps := (ps.zip (encs x)).foldl (fun t (p, v) => t.setIfInBounds p v) a.tmps, defers := [] } W)
    (hbody : ∀ l pre x rest a1 S W, xs = pre ++ x :: rest → Mid (pre, x, a1) S W → Inb S W → w.heap.size < W.heap.size → body.wpIn (Fence.wide.inRound l) (n - 1 - 1) P (Left I Ix (pre ++ [x]) S W) a1 W)
    (hdone : ∀ (D : Nat) S' W', w.heap.size ≤ D → ¬ S' D → Foot S0 S' w W' → Inb S' W' → I xs S' W' → W'.heap[D]? = some (.deferred (some [])) →
      Q .normal { a with defers := { target := .collected D, args := #[] } :: a.defers } W')
    (hstop : ∀ (D : Nat) (c : Code) pre S' W', w.heap.size ≤ D → ¬ S' D → Foot S0 S' w W' → Inb S' W' → pre <+: xs → Ix c pre S' W' → W'.heap[D]? = some (.deferred (some [])) →
      c.wpIn Fence.wide n P Q { a with defers := { target := .collected D, args := #[] } :: a.defers } W') :
    (Code.rangeFunc g ps assign body).wpIn Fence.wide n P Q a w :=
  wpIn_rangeH hg eg hseq hps I Ix hI hIx S0 hS0 h0 hA Mid hMid hassign (fun l pre x rest a1 S W e h1 h2 h3 _ => hbody l pre x rest a1 S W e h1 h2 h3) hdone hstop
theorem wpIn_rangeO {α : Type} {g : Operand} {ps : Array Tmp} {assign body : Code} {Q : Exit → Act → World → Prop} {a : Act} {w : World}
    {gf : Nat} {lb : Array Value} (hg : a.eval g = .func (.func gf) #[] lb) (eg : ∀ args w, (callFunc gf args).run P w = .ok (.enter gf args) w)
    {encs : α → Array Value} {xs : List α} {A : (Nat → Prop) → Prop} {O : Nat → Prop} (hO : ∀ k, O k → k < w.heap.size) (hseq : ∀ W1, Keeps (fun _ => False) w W1 → GivesO P (n - 1) gf lb encs xs W1 A O) (hps : ∀ x, (encs x).size = ps.size)
    (I : List α → (Nat → Prop) → World → Prop) (Ix : Code → List α → (Nat → Prop) → World → Prop) (hI : Stab w.heap.size I) (hIx : ∀ c, Stab w.heap.size (Ix c))
    (S0 : Nat → Prop) (hS0 : Inb S0 w) (h0 : I [] S0 w) (hIO : ∀ S W W', I [] S W → Inb S W → Keeps O W W' → I [] S W') (hA : ∀ S, (∀ k, S k → S0 k ∨ w.heap.size ≤ k) → A S)
    (Mid : List α × α × Act → (Nat → Prop) → World → Prop) (hMid : Stab w.heap.size Mid)
    (hassign : ∀ l pre x rest S W, xs = pre ++ x :: rest → I pre S W → Inb S W → w.heap.size < W.heap.size →
      assign.wpIn (Fence.wide.inRound l) (n - 1 - 1) P (Exit.then (fun a1 W1 => ∃ S1, Foot S S1 W W1 ∧ Inb S1 W1 ∧ Mid (pre, x, a1) S1 W1) (fun _ _ _ => False))
        { tmps := (ps.zip (encs x)).foldl (fun t (p, v) => t.setIfInBounds p v) a.tmps, defers := [] } W)
    (hbody : ∀ l pre x rest a1 S W, xs = pre ++ x :: rest → Mid (pre, x, a1) S W → Inb S W → w.heap.size < W.heap.size → (w.heap.size ≤ l ∧ ¬ S l ∧ ∃ r, W.heap[l]? = some (.loop r)) → body.wpIn (Fence.wide.inRound l) (n - 1 - 1) P (Left I Ix (pre ++ [x]) S W) a1 W)
    (hdone : ∀ (D : Nat) S' W', w.heap.size ≤ D → ¬ S' D → Foot (fun k => S0 k ∨ O k) S' w W' → Inb S' W' → I xs S' W' → W'.heap[D]? = some (.deferred (some [])) →
      Q .normal { a with defers := { target := .collected D, args := #[] } :: a.defers } W')
    (hstop : ∀ (D : Nat) (c : Code) pre S' W', w.heap.size ≤ D → ¬ S' D → Foot (fun k => S0 k ∨ O k) S' w W' → Inb S' W' → pre <+: xs → Ix c pre S' W' → W'.heap[D]? = some (.deferred (some [])) →
      c.wpIn Fence.wide n P Q { a with defers := { target := .collected D, args := #[] } :: a.defers } W') :
    (Code.rangeFunc g ps assign body).wpIn Fence.wide n P Q a w :=
  wpIn_rangeP hg eg hO (Nx := fun pre x => ∃ rest, xs = pre ++ x :: rest) (Fin := fun ys => ys = xs) (fun W1 hk => GivesP.ofO (hseq W1 hk)) hps I (fun c pre S W => Ix c pre S W ∧ pre <+: xs) hI
    (fun c s S T W W' h hin hk hd ht => ⟨hIx c s S T W W' h.1 hin hk hd ht, h.2⟩) S0 hS0 h0 hIO hA Mid hMid
    (fun l pre x S W ⟨rest, e⟩ => hassign l pre x rest S W e)
    (fun l pre x a1 S W ⟨rest, e⟩ h1 h2 h3 h4 => wpIn_mono (hbody l pre x rest a1 S W e h1 h2 h3 h4) (left_pre ⟨rest, by rw [e]; simp⟩))
    (fun D ys S' W' e h1 h2 h3 h4 h5 h6 => hdone D S' W' h1 h2 h3 h4 (e ▸ h5) h6)
    (fun D c pre S' W' h1 h2 h3 h4 h5 h6 => hstop D c pre S' W' h1 h2 h3 h4 h5.2 h5.1 h6)
theorem wpIn_rangeN {l₀ : Nat} {r₀ : Loop} {α : Type} {g : Operand} {ps : Array Tmp} {assign body : Code} {Q : Exit → Act → World → Prop} {a : Act} {w : World} (hl₀ : w.heap[l₀]? = some (.loop r₀))
    {gf : Nat} {lb : Array Value} (hg : a.eval g = .func (.func gf) #[] lb) (eg : ∀ args w, (callFunc gf args).run P w = .ok (.enter gf args) w)
    {encs : α → Array Value} {xs : List α} {A : (Nat → Prop) → Prop} (hseq : ∀ W1, Keeps (fun _ => False) w W1 → Gives P (n - 1) gf lb encs xs W1 A) (hps : ∀ x, (encs x).size = ps.size)
    (I : List α → (Nat → Prop) → World → Prop) (Ix : Code → List α → (Nat → Prop) → World → Prop) (hI : Stab w.heap.size I) (hIx : ∀ c, Stab w.heap.size (Ix c))
    (S0 : Nat → Prop) (hS0 : Inb S0 w) (h0 : I [] S0 w) (hA : ∀ S, (∀ k, S k → S0 k ∨ w.heap.size ≤ k) → A S)
    (Mid : List α × α × Act → (Nat → Prop) → World → Prop) (hMid : Stab w.heap.size Mid)
    (hassign : ∀ l pre x rest S W, xs = pre ++ x :: rest → I pre S W → Inb S W → w.heap.size < W.heap.size →
      assign.wpIn (Fence.wide.inRound l) (n - 1 - 1) P (Exit.then (fun a1 W1 => ∃ S1, Foot S S1 W W1 ∧ Inb S1 W1 ∧ Mid (pre, x, a1) S1 W1) (fun _ _ _ => False))
        { tmps := (ps.zip (encs x)).foldl (fun t (p, v) => t.setIfInBounds p v) a.tmps, defers := [] } W)
    (hbody : ∀ l pre x rest a1 S W, xs = pre ++ x :: rest → Mid (pre, x, a1) S W → Inb S W → w.heap.size < W.heap.size → (w.heap.size ≤ l ∧ ¬ S l ∧ ∃ r, W.heap[l]? = some (.loop r)) → body.wpIn (Fence.wide.inRound l) (n - 1 - 1) P (Left I Ix (pre ++ [x]) S W) a1 W)
    (hdone : ∀ S' W', Foot S0 S' w W' → Inb S' W' → I xs S' W' → Q .normal a W')
    (hstop : ∀ (c : Code) pre S' W', Foot S0 S' w W' → Inb S' W' → pre <+: xs → Ix c pre S' W' → c.wpIn (Fence.wide.inRound l₀) n P Q a W') :
    (Code.rangeFunc g ps assign body).wpIn (Fence.wide.inRound l₀) n P Q a w := by
  refine wpIn_rangeFunc ?_
  intro fn hfn
  obtain ⟨rec, hrec⟩ : ∃ rec : LoopState → Option Code → Loop, rec = fun st pe => { state := st, pending := pe, fn, tmps := a.tmps, params := ps, assign, body, defers := r₀.defers } := ⟨_, rfl⟩
  obtain ⟨W1, hW1⟩ : ∃ W1, w.alloc (.loop (rec .ready none)) = W1 := ⟨_, rfl⟩
  have hz1 : W1.heap.size = w.heap.size + 1 := by rw [← hW1]; simp
  have hL1 : W1.heap[w.heap.size]? = some (.loop (rec .ready none)) := by
    rw [← hW1]; exact World.alloc_heap_new w _
  have hk1 : Keeps (fun _ => False) w W1 := by rw [← hW1]; exact (Keeps.refl _ w).alloc _
  have hI1 : I [] S0 W1 := hI [] S0 _ w W1 h0 hS0 hk1 (fun _ _ h => h) (fun _ h => h.elim)
  refine ⟨w.heap.size, [], W1, { target := .fn (.func gf) lb, args := #[.func (.yield (w.heap.size)) #[] #[]] }, W1, gf,
    #[.func (.yield (w.heap.size)) #[] #[]] ++ lb, W1, ?_, ?_, ?_, ?_, fun h => by simp [Fence.wide] at h, ?_⟩
  · rw [← hW1, hrec]; exact run_enterLoop_inner hl₀ _ _ _ _ _
  · simp only [resolve, hg]
    simp [go_sem]
  · intro f' _; trivial
  · simp [invoke, go_sem, eg]
  · -- the two facts of book-keeping ride beside the invariant
    have jI : ∀ {β : Type} {K : β → (Nat → Prop) → World → Prop}, Stab w.heap.size K → ∀ (o : Obj), Stab W1.heap.size
        (fun s S' W => ∃ S, (∀ k, S' k ↔ S k ∨ k = w.heap.size) ∧ ¬ S w.heap.size ∧ Inb S W ∧ K s S W ∧ W.heap[w.heap.size]? = some o ) := by
      intro β K hK o s S' T A B hj hi hk hd ht
      obtain ⟨S, h1, h2, h4, h5, h6⟩ := hj
      have hTl : ∀ k, k < W1.heap.size → ¬ T k := fun k hk' hT => by have := ht k hT; omega
      refine ⟨S, h1, h2, h4.mono hk.size, hK s S T A B h5 h4 hk (fun k hs => hd k ((h1 k).2 (.inl hs))) (fun k hT => by have := ht k hT; omega), ?_⟩
      · exact (hk.block _ (Array.getElem?_eq_some_iff.1 h6).1 (hTl _ (by omega))).trans h6
    have hx : Stab W1.heap.size (fun pre S' W => ∃ c, ∃ S, (∀ k, S' k ↔ S k ∨ k = w.heap.size) ∧ ¬ S w.heap.size ∧ Inb S W ∧ Ix c pre S W ∧ W.heap[w.heap.size]? = some (.loop (rec .done (some c))) ) := by
      intro s S' T A B hj hi hk hd ht
      obtain ⟨c, hj⟩ := hj
      exact ⟨c, jI (hIx c) _ s S' T A B hj hi hk hd ht⟩
    refine (hseq W1 hk1 (w.heap.size) _ _ (fun k => S0 k ∨ k = w.heap.size) (hA _ (fun k hk => hk.imp id (fun e => by omega))) (jI hI (.loop (rec .ready none))) hx
      (fun k hk => hk.elim (fun h => by have := hS0 k h; omega) (fun e => by omega)) ?_
      ⟨S0, fun k => Iff.rfl, fun h => by have := hS0 _ h; omega, hS0.mono hk1.size, hI1, hL1⟩).mono ?_
    · -- one round
      rintro pre x rest S' W hxs ⟨S, e1, e2, hin, hi, hl⟩ hin'
      have hlt : w.heap.size < W.heap.size := (Array.getElem?_eq_some_iff.1 hl).1
      have hy := run_yield (P := P) (args := encs x) hl (by rw [hrec]; exact hps x)
      rw [hrec] at hy
      refine ⟨fn, _, assign, body, hy, roundIn_of_wpIn hfn (wpIn_mono (hassign _ pre x rest S W hxs hi hin (by omega)) ?_)⟩
      intro e a1 Wa hpost
      cases e with
      | normal =>
        obtain ⟨Sa, hfa, hina, hmid⟩ := hpost
        have hla : Wa.heap[w.heap.size]? = some (.loop (rec .ready none)) := (hfa.1.block _ hlt e2).trans hl
        have hSaL : ¬ Sa (w.heap.size) := fun h => (hfa.2 _ h).elim e2 (fun h => by omega)
        have hlta : w.heap.size < Wa.heap.size := (Array.getElem?_eq_some_iff.1 hla).1
        have hbr := run_beginRound (P := P) hla (by rw [hrec])
        obtain ⟨ob, hob⟩ : ∃ ob, ob = Obj.loop { rec .ready none with state := .busy } := ⟨_, rfl⟩
        rw [← hob] at hbr
        have hkp1 := keeps_putObj Wa (w.heap.size) ob
        refine ⟨_, hbr, ?_⟩
        have hmid2 := hMid _ Sa _ _ _ hmid hina hkp1 (fun k hs e => hSaL (e ▸ hs)) (fun k e => by omega)
        have hl2 : (Wa.putObj (w.heap.size) ob).heap[w.heap.size]? = some (.loop { rec .ready none with state := .busy }) := by rw [← hob]; exact World.putObj_heap_same hlta
        have hlt2 : w.heap.size < (Wa.putObj (w.heap.size) ob).heap.size := (Array.getElem?_eq_some_iff.1 hl2).1
        refine wpIn_mono (hbody _ pre x rest a1 Sa _ hxs hmid2 (hina.mono hkp1.size) (by omega) ⟨by omega, hSaL, _, hl2⟩) ?_
        generalize hWb : Wa.putObj (w.heap.size) ob = Wb at *
        have fin : ∀ (jump : Option Code) (S2 : Nat → Prop) (W3 : World), Foot Sa S2 Wb W3 → Inb S2 W3 →
            (Instr.endRound (w.heap.size) jump).run P W3 = .ok (.bool jump.isNone) (W3.putObj (w.heap.size) (.loop (rec (if jump.isNone then .ready else .done) jump))) ∧
            (W3.putObj (w.heap.size) (.loop (rec (if jump.isNone then .ready else .done) jump))).heap[w.heap.size]? = some (.loop (rec (if jump.isNone then .ready else .done) jump)) ∧
            ¬ S2 w.heap.size ∧ Foot S' (fun k => S2 k ∨ k = w.heap.size) W (W3.putObj (w.heap.size) (.loop (rec (if jump.isNone then .ready else .done) jump))) ∧
            Inb (fun k => S2 k ∨ k = w.heap.size) (W3.putObj (w.heap.size) (.loop (rec (if jump.isNone then .ready else .done) jump))) ∧
            Inb S2 (W3.putObj (w.heap.size) (.loop (rec (if jump.isNone then .ready else .done) jump))) ∧
            (∀ (K : (Nat → Prop) → World → Prop), (∀ S (T : Nat → Prop) (W W' : World), K S W → Inb S W → Keeps T W W' → (∀ k, S k → ¬ T k) → (∀ k, T k → w.heap.size ≤ k) → K S W') → K S2 W3 → K S2 (W3.putObj (w.heap.size) (.loop (rec (if jump.isNone then .ready else .done) jump)))) := by
          intro jump S2 W3 hf hin2
          have hl3 := (hf.1.block _ hlt2 hSaL).trans hl2
          have hS2L : ¬ S2 (w.heap.size) := fun h => (hf.2 _ h).elim hSaL (fun h => by omega)
          have hr := run_endRound (P := P) jump hl3
          have hlt3 : w.heap.size < W3.heap.size := (Array.getElem?_eq_some_iff.1 hl3).1
          have hkp2 := keeps_putObj W3 (w.heap.size) (.loop (rec (if jump.isNone then .ready else .done) jump))
          have hin3 := hin2.mono hkp2.size
          refine ⟨by rw [hrec] at hr ⊢; exact hr, World.putObj_heap_same hlt3, hS2L, ?_, ?_, hin3, ?_⟩
          · have hs0 : ∀ k, S k → S' k := fun k h => (e1 k).2 (.inl h)
            have hsL : S' (w.heap.size) := (e1 _).2 (.inr rfl)
            have t1 : Foot S' (fun k => Sa k ∨ k = w.heap.size) W Wa := ⟨hfa.1.mono (fun k _ h => hs0 k h), fun k h => h.elim (fun h => (hfa.2 k h).imp (hs0 k) id) (fun e => .inl (e ▸ hsL))⟩
            have t2 : Foot (fun k => Sa k ∨ k = w.heap.size) (fun k => Sa k ∨ k = w.heap.size) Wa Wb := Foot.same (hkp1.mono (fun k _ e => .inr e))
            have t3 : Foot (fun k => Sa k ∨ k = w.heap.size) (fun k => S2 k ∨ k = w.heap.size) Wb W3 := ⟨hf.1.mono (fun k _ h => .inl h), fun k h => h.elim (fun h => (hf.2 k h).imp .inl id) (fun e => .inl (.inr e))⟩
            exact ((t1.trans t2).trans t3).trans (Foot.same (hkp2.mono (fun k _ e => .inr e)))
          · intro k h
            rcases h with h | h
            · exact hin3 k h
            · have := hkp2.size; omega
          · intro K hK hk
            exact hK S2 _ W3 _ hk hin2 hkp2 (fun k hs e => hS2L (e ▸ hs)) (fun k e => by omega)
        rintro e a3 W3 hp
        cases e with
        | normal =>
          obtain ⟨S2, hf, hin2, hi2⟩ := hp
          obtain ⟨g1, g2, g4, g6, g7, g8, g9⟩ := fin none S2 W3 hf hin2
          exact ⟨_, _, g1, _, g6, g7, .inl ⟨rfl, S2, fun k => Iff.rfl, g4, g8, g9 (I (pre ++ [x])) (hI _) hi2, g2⟩⟩
        | ret =>
          obtain ⟨S2, hf, hin2, hi2⟩ := hp
          obtain ⟨g1, g2, g4, g6, g7, g8, g9⟩ := fin (some .ret) S2 W3 hf hin2
          exact ⟨_, _, g1, _, g6, g7, .inr ⟨rfl, .ret, S2, fun k => Iff.rfl, g4, g8, g9 (Ix .ret (pre ++ [x])) (hIx _ _) hi2, g2⟩⟩
        | exit id =>
          obtain ⟨S2, hf, hin2, hi2⟩ := hp
          obtain ⟨g1, g2, g4, g6, g7, g8, g9⟩ := fin (some (.exit id)) S2 W3 hf hin2
          exact ⟨_, _, g1, _, g6, g7, .inr ⟨rfl, .exit id, S2, fun k => Iff.rfl, g4, g8, g9 (Ix (.exit id) (pre ++ [x])) (hIx _ _) hi2, g2⟩⟩
        | goto t =>
          obtain ⟨S2, hf, hin2, hi2⟩ := hp
          obtain ⟨g1, g2, g4, g6, g7, g8, g9⟩ := fin (some (.goto t)) S2 W3 hf hin2
          exact ⟨_, _, g1, _, g6, g7, .inr ⟨rfl, .goto t, S2, fun k => Iff.rfl, g4, g8, g9 (Ix (.goto t) (pre ++ [x])) (hIx _ _) hi2, g2⟩⟩
        | panic ch => exact hp.elim
        | outgrown => exact hp.elim
      | ret => exact hpost.elim
      | exit id => exact hpost.elim
      | goto t => exact hpost.elim
      | panic ch => exact hpost.elim
      | outgrown => exact hpost.elim
    · -- behind the iterator
      rintro e W2 ⟨⟨v, rfl⟩, S', hf, hin', h⟩
      have foot : ∀ S (o : Obj), (∀ k, S' k ↔ S k ∨ k = w.heap.size) → ¬ S (w.heap.size) → Foot S0 S w (W2.putObj (w.heap.size) o) := by
        intro S o h1 h2
        refine ⟨?_, fun k hk => ?_⟩
        · exact ((hk1.mono (fun k _ h => h.elim)).then hf.1 (fun i hi hs => hs.resolve_right (by omega))).then (keeps_putObj W2 (w.heap.size) o) (fun i hi e => by omega)
        · rcases hf.2 k ((h1 k).2 (.inl hk)) with (h | h) | h
          · exact .inl h
          · exact .inr (by omega)
          · exact .inr (by omega)
      rcases h with ⟨S, e1, e2, hin, hi, hl⟩ | ⟨pre, hpre, c, S, e1, e2, hin, hi, hl⟩
      · exact ⟨none, _, by have := run_endLoop (P := P) hl (by rw [hrec]; simp); rw [hrec] at this; exact this,
          hdone S _ (foot S _ e1 e2) (hin.mono (keeps_putObj W2 _ _).size) (hI _ S _ _ _ hi hin (keeps_putObj W2 _ _) (fun k hs e => e2 (e ▸ hs)) (fun k e => by omega))⟩
      · exact ⟨some c, _, by have := run_endLoop (P := P) hl (by rw [hrec]; simp); rw [hrec] at this; exact this,
          hstop c pre S _ (foot S _ e1 e2) (hin.mono (keeps_putObj W2 _ _).size) hpre (hIx c _ S _ _ _ hi hin (keeps_putObj W2 _ _) (fun k hs e => e2 (e ▸ hs)) (fun k e => by omega))⟩
end
end Mem
end Go.Proofs.YtdaindihobfokaaGreatDoor
