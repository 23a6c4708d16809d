/-
App: one element more on a slice of one's own, whatever the element.
HxD: the document's grid: Del and Put.
HxE: the document's grid: Put; Apart.
-/
import Derived.Test.YtdbpfbokfmpgcaaZaaMemIterTreeAHeldGrA
import Derived.Maps.AppendAt
import Derived.RangeFuncBox
import Derived.Deep.RegionHeld3
import Derived.Test.YtdbpfbokfmpgcaaZbfHxAHxBHxCHxP
namespace Go.Proofs.Ytdbpfbokfmpgcaa
open Go.RowKit
set_option linter.unusedVariables false
namespace Mem
/-- what is wanted of an element's type -/
structure ElT (P : Program) (T e : TypeId) {α : Type} (f : α → List Value) (size : Nat) : Prop where
  row : P.underlying T = some (.slice e)
  info : ∃ i z, P.info? e = some i ∧ i.zero = some z ∧ i.size = size ∧ i.bytes ≤ 64 ∧ z.cells.size = size
  pos : 0 < size
  len : ∀ x, (f x).length = size
  one : ∀ x, ∀ u ∈ f x, u.oneCell' = true
theorem flatMap_len {α : Type} {f : α → List Value} {size : Nat} (h : ∀ x, (f x).length = size) (l : List α) : (l.flatMap f).length = l.length * size := by
  induction l with
  | nil => simp
  | cons a l ih => rw [List.flatMap_cons, List.length_append, ih, h, List.length_cons, Nat.add_mul]; omega
theorem own_n {w : World} {base : Nat} {e : TypeId} {size n m : Nat} {la : Option Addr} {lc : Nat} {xs : List Value} (h : w.ownsRow base e size (.slice la n lc) n xs) (hn : n = m) : w.ownsRow base e size (.slice la m lc) m xs := hn ▸ h
theorem app_f {P : Program} {T e : TypeId} {α : Type} {f : α → List Value} {size : Nat} (hE : ElT P T e f size) {ops : Array Oper} {rest : List Oper} {o : Oper} {a : Act} {w : World} {Q : Exit → Act → World → Prop} (hgd : o.guard = none) (s x : Operand)
    (ho : o.op = .call { callee := .builtin .append, args := #[s, x], argTypes := #[T, T] }) (base : Nat) (l : List α) (n : Nat) (la : Option Addr) (lc : Nat) (hs : a.eval s = .slice la n lc) (hO : w.ownsRow base e size (.slice la n lc) n (l.flatMap f))
    (p : α) (nb : Nat) (hx : a.eval x = .slice (some ⟨nb, 0, none⟩) 1 1) (hnew : ∀ j u, (f p)[j]? = some u → w.cell? ((⟨nb, 0, none⟩ : Addr).add j) = some u) (hl : n ≤ 1000000000) (hb : base ≤ w.heap.size)
    (h : ∀ g' cap' w', w'.ownsRow base e size (.slice (some ⟨g', 0, none⟩) (n + 1) cap') (n + 1) ((l ++ [p]).flatMap f) → w.grownBy w' (Value.slice la n lc).ownBlock → wpList P ops Q rest (a.put o.dst (.slice (some ⟨g', 0, none⟩) (n + 1) cap')) w') :
    wpList P ops Q (o :: rest) a w := by
  obtain ⟨i, z, hi, hz, h1, h2, h3⟩ := hE.info
  refine wpList_append_own_at w hgd s x T ho base e i z size i.bytes hE.row hi hz h1 rfl h3 hE.pos (.slice la n lc) n (l.flatMap f) hs hO ⟨nb, 0, none⟩ 1 1 (f p) hx (by rw [hE.len, Nat.one_mul]) hnew (hE.one p) (by unfold maxLen; omega) ?_ hb ?_
  · have := Nat.mul_le_mul (show n + 1 ≤ 1000000001 by omega) h2
    omega
  · intro v' w' hown hgrow _ _
    obtain ⟨g', cap', rfl⟩ := ownsRow_succ hown
    have e2 : (l ++ [p]).flatMap f = l.flatMap f ++ f p := by simp
    exact h g' cap' w' (by rw [e2]; exact hown) hgrow
theorem step_app_f {P : Program} {T e : TypeId} {α : Type} {f : α → List Value} {size : Nat} (hE : ElT P T e f size) {ops : Array Oper} {o : Oper} {a : Act} {w : World} {K : Act → World → Prop} {Q : Exit → Act → World → Prop} {E : Prop} (hgd : o.guard = none) (s x : Operand)
    (ho : o.op = .call { callee := .builtin .append, args := #[s, x], argTypes := #[T, T] }) (base : Nat) (l : List α) (n : Nat) (la : Option Addr) (lc : Nat) (hs : a.eval s = .slice la n lc) (hO : w.ownsRow base e size (.slice la n lc) n (l.flatMap f))
    (p : α) (nb : Nat) (hx : a.eval x = .slice (some ⟨nb, 0, none⟩) 1 1) (hnew : ∀ j u, (f p)[j]? = some u → w.cell? ((⟨nb, 0, none⟩ : Addr).add j) = some u) (hl : n ≤ 1000000000) (hb : base ≤ w.heap.size)
    (h : ∀ g' cap' w', w'.ownsRow base e size (.slice (some ⟨g', 0, none⟩) (n + 1) cap') (n + 1) ((l ++ [p]).flatMap f) → w.grownBy w' (Value.slice la n lc).ownBlock → K (a.put o.dst (.slice (some ⟨g', 0, none⟩) (n + 1) cap')) w') :
    if Region.wanted o (yielded ops a.tmps) = true then Oper.wp P o a w K Q else E := by
  have hw : Region.wanted o (yielded ops a.tmps) = true := by simp [Region.wanted, hgd]
  rw [if_pos hw]
  obtain ⟨i, z, hi, hz, h1, h2, h3⟩ := hE.info
  have hby : (n + 1) * i.bytes ≤ 140737488355328 := by
    have := Nat.mul_le_mul (show n + 1 ≤ 1000000001 by omega) h2
    omega
  obtain ⟨v', w', hr, hown, hgrow, _, _⟩ := run_append_own_at (P := P) w base T o.type e i z size i.bytes hE.row hi hz h1 rfl h3 hE.pos (.slice la n lc) n (l.flatMap f) hO ⟨nb, 0, none⟩ 1 1 (f p) (by rw [hE.len, Nat.one_mul]) hnew (hE.one p) (by unfold maxLen; omega) hby hb
  unfold Oper.wp execOp
  simp only [ho, resolve, invoke, builtin, Sem.run_bind, Sem.run_pure, Result.andThen_ok, List.map_toArray, List.map_cons, List.map_nil, hs, hx, hr]
  obtain ⟨g', cap', rfl⟩ := ownsRow_succ hown
  have e2 : (l ++ [p]).flatMap f = l.flatMap f ++ f p := by simp
  exact h g' cap' w' (by rw [e2]; exact hown) hgrow
section
variable {P : Program} {md : Region.Mode} {ops : Array Oper} {Q : Exit → Act → World → Prop} {S : World → Prop}
theorem anyH_one (i : Nat) {o : Oper} {fuel : Nat} {listed : Array Bool} {a : Act} {w : World} (hr : Region.ready md ops listed = [i]) (ho : ops[i]? = some o) (hw : Region.wanted o (yielded ops a.tmps) = true)
    (h : ∀ K' : Act → World → Prop, (∀ a' w', S w' → wpAnyH P md ops Q S fuel (listed.setIfInBounds i true) a' w' → K' a' w') → Oper.wp P o a w K' Q) : wpAnyH P md ops Q S (fuel + 1) listed a w :=
  wpAnyH_ready hr (by simp) (AllReadyH.cons ho (fun K hK => by rw [if_pos hw]; exact h K (fun a w hS hW => hK.out a w hS (fun _ => hW))) AllReadyH.nil)
end
end Mem
end Go.Proofs.Ytdbpfbokfmpgcaa
namespace Go.Proofs.Ytdbpfbokfmpgcaa
open Go.RowKit Go.Shelf
set_option linter.unusedVariables false
set_option linter.unusedSimpArgs false
set_option linter.ambiguousOpen false
attribute [local go_sem] Oper.semAt_some
namespace Gx
open Mem Gr Gs
theorem bxInfo : (Try.prog.info? 68).map (fun i => (i.zero, i.size, i.bytes)) = some (some (.agg #[.int .u32 0, .int .i32 0, .int .i32 0, .int .i32 0, .int .i32 0]), 5, 20) := by kernel_rfl
theorem elBx : ElT Try.prog 53 68 bxd 5 := by
  obtain ⟨i0, hi0, hz0, hz1, hz2⟩ := info_parts bxInfo
  exact ⟨Try.underlying53, ⟨i0, _, hi0, hz0, hz1, by omega, rfl⟩, by decide, fun _ => rfl, fun x u hu => by simp [bxd] at hu; rcases hu with rfl | rfl | rfl | rfl | rfl <;> rfl⟩
/-- the grid behind a call that turns its list -/
def DidG (R : Nat) (s : Int) (L' : List (Nat × Bx)) (w w' : World) : Prop := ∃ a' cp', RG w' R s a' cp' L' ∧ Keeps (fun k => k = R) w w' ∧ ∀ k, (Value.slice a' L'.length cp').ownBlock = some k → w.heap.size ≤ k
theorem at_yes (w : World) (R : Nat) (s : Int) (a : Option Addr) (cp : Nat) (L : List (Nat × Bx)) (h : RG w R s a cp L) (hl : L.length ≤ 1000000) (hnd : (L.map (·.1)).Nodup) (id : Nat) (k : Nat) (q : Nat × Bx) (hk : L[k]? = some q) (hq : q.1 = id) :
    Calls Try.prog 44 #[.pointer (some ⟨R, 0, none⟩), .int .u32 (id : Int)] w fun e w' => e = .returned (.int .i64 (k : Int)) ∧ w = w' := by
  refine Calls.mono (at_r w R s a cp L h hl id) ?_
  rintro e w' ⟨rfl, z, rfl, ⟨rfl, hz⟩ | ⟨i, p, rfl, hi, hp⟩⟩
  · exact absurd hq (hz q (List.mem_of_getElem? hk))
  · have : i = k := by
      have h1 : (L.map (·.1))[i]? = some id := by simp [hi, hp]
      have h2 : (L.map (·.1))[k]? = some id := by simp [hk, hq]
      have hl1 := (List.getElem?_eq_some_iff.1 h1).1
      exact (List.getElem?_inj hl1 hnd).1 (h1.trans h2.symm)
    subst this
    exact ⟨rfl, rfl⟩
theorem at_no (w : World) (R : Nat) (s : Int) (a : Option Addr) (cp : Nat) (L : List (Nat × Bx)) (h : RG w R s a cp L) (hl : L.length ≤ 1000000) (id : Nat) (hno : ∀ p ∈ L, p.1 ≠ id) :
    Calls Try.prog 44 #[.pointer (some ⟨R, 0, none⟩), .int .u32 (id : Int)] w fun e w' => e = .returned (.int .i64 (-1)) ∧ w = w' := by
  refine Calls.mono (at_r w R s a cp L h hl id) ?_
  rintro e w' ⟨rfl, z, rfl, ⟨rfl, hz⟩ | ⟨i, p, rfl, hi, hp⟩⟩
  · exact ⟨rfl, rfl⟩
  · exact absurd hp (hno p (List.mem_of_getElem? hi))
/-- the store of the list at the end -/
theorem did_store {w W : World} {R : Nat} {s : Int} {a : Option Addr} {cp : Nat} {L L' : List (Nat × Bx)} {la : Option Addr} {lc : Nat} (h : RG w R s a cp L) (hk : Keeps (fun _ => False) w W) (hO : W.ownsRow w.heap.size 68 5 (.slice la L'.length lc) L'.length (bxdL L')) :
    DidG R s L' w (W.setCell ⟨R, 1, none⟩ (.slice la L'.length lc)) := by
  have hB := h.blk.keeps hk (fun h => h)
  refine ⟨la, lc, ⟨?_, ?_⟩, Keeps.setCell (S := fun k => k = R) (hk.mono (fun _ _ h => h.elim)) (p := ⟨R, 1, none⟩) (fun _ => rfl) _, ?_⟩
  · have := hB.set_ 1 (.slice la L'.length lc)
    simpa using this
  · refine owns_keeps (own_mono hO (Nat.zero_le _)) (Keeps.setCell (S := fun k => k = R) (Keeps.refl _ W) (p := ⟨R, 1, none⟩) (fun _ => rfl) _) (fun b hb e => ?_)
    have := (hO.lt b hb).1
    have := h.blk.lt
    omega
  · intro b hb
    exact (hO.lt b hb).1
set_option maxHeartbeats 8000000 in
set_option maxRecDepth 100000 in
theorem del_yes (w : World) (R : Nat) (s : Int) (a : Option Addr) (cp : Nat) (L : List (Nat × Bx)) (h : RG w R s a cp L) (hl : L.length ≤ 1000000) (hnd : (L.map (·.1)).Nodup) (id : Nat) (k : Nat) (q : Nat × Bx) (hk : L[k]? = some q) (hq : q.1 = id) :
    Calls Try.prog 25 #[.pointer (some ⟨R, 0, none⟩), .int .u32 (id : Int)] w fun e w' => e = .returned (.int .i64 0) ∧ DidG R s (delB id L) w w' := by
  have HAt := Lib.hid (at_yes w R s a cp L h hl hnd id k q hk hq)
  have hidx : ∀ i p, L[i]? = some p → (i ≠ k ↔ p.1 ≠ id) := fun i p hi => by
    constructor
    · intro hne e
      have h1 : (L.map (·.1))[i]? = some id := by simp [hi, e]
      have h2 : (L.map (·.1))[k]? = some id := by simp [hk, hq]
      exact hne ((List.getElem?_inj (List.getElem?_eq_some_iff.1 h1).1 hnd).1 (h1.trans h2.symm))
    · rintro hne rfl
      rw [hk] at hi; cases hi
      exact hne hq
  have HI := Lib.hid hidx
  obtain ⟨n, hn⟩ : ∃ n : Nat, n = L.length := ⟨_, rfl⟩
  rw [← hn] at hl
  have hnI : (n : Int) ≤ 1000000 := by omega
  have hkn : (k : Int) < n := by have := (List.getElem?_eq_some_iff.1 hk).1; omega
  have cR := h.blk.cell
  rw [← hn] at cR
  have HN := Lib.hid hn
  have H := Lib.hid h
  clear hn h hl hnd hk hq hidx
  go_enter Try.func25, Try.ntmps25
  go_wp2_with (go_at_call 44; (with_reducible refine HAt.out.mono ?_); rintro e w1 ⟨rfl, rfl⟩)
  clear cR
  go_loopw [6, 7] (fun v q wr => ∃ (i : Nat) (l : List (Nat × Bx)) (la : Option Addr) (lc : Nat), q = .int .i64 (i : Int) ∧ i ≤ n ∧ v = .slice la l.length lc ∧ l.length ≤ i ∧ l ++ delB id (L.drop i) = delB id L ∧ wr.ownsRow w.heap.size 68 5 (.slice la l.length lc) l.length (bxdL l) ∧ Keeps (fun _ => False) w wr) (fun _ q _ => n - (intOf q).toNat)
  case atStart => exact ⟨0, [], none, 0, rfl, Nat.zero_le _, rfl, Nat.le_refl _, rfl, World.ownsRow_nil _ _ _ _, Keeps.refl _ _⟩
  case round =>
    obtain ⟨i, l, la, lc, rfl, hi, rfl, hll, hdel, hO, hK⟩ := hrel
    have cR := (H.out.blk.keeps hK (fun h => h)).cell
    rw [← HN.out] at cR
    have HO := Lib.hid hO
    have HKR := Lib.hid hK
    have HD := Lib.hid hdel
    have HLN := Lib.hid (show l.length ≤ 1000000 by omega)
    clear hO hdel
    by_cases hlt : i < n
    · obtain ⟨p, hp⟩ : ∃ p, L[i]? = some p := ⟨_, List.getElem?_eq_getElem (by have := HN.out; omega)⟩
      obtain ⟨g, rfl, hc⟩ := (H.out.kd hK).row hp
      have c0 := hc 0 _ rfl
      have c1 := hc 1 _ rfl
      have c2 := hc 2 _ rfl
      have c3 := hc 3 _ rfl
      have c4 := hc 4 _ rfl
      simp only [Nat.add_zero] at c0
      have hltI : (i : Int) < (n : Int) := by omega
      have hdr : L.drop i = p :: L.drop (i + 1) := by
        have hil : i < L.length := (List.getElem?_eq_some_iff.1 hp).1
        rw [List.drop_eq_getElem_cons hil]
        rw [List.getElem?_eq_getElem hil] at hp
        cases hp; rfl
      have HP := Lib.hid (And.intro hp hdr)
      clear hp hc hK hdr
      by_cases he : i = k
      · have hpe : p.1 = id := by
          have h1 := HI.out i p HP.out.1
          exact Classical.not_not.1 (fun h2 => (h1.2 h2) he)
        have heI : ((i : Int) != (k : Int)) = false := by simp; omega
        have HE := Lib.hid hpe
        clear hpe he
        go_wp2
        go_roundw
        case rel =>
          refine ⟨i + 1, l, la, lc, by rw [Int.natCast_add]; rfl, by omega, rfl, by omega, ?_, HO.out, HKR.out⟩
          have h1 := HD.out
          rw [HP.out.2] at h1
          rw [← h1]
          unfold delB
          rw [List.filter_cons, if_neg (by simp [HE.out])]
        case measure => simp only [intOf]; omega
      · have hpe : p.1 ≠ id := (HI.out i p HP.out.1).1 he
        have heI : ((i : Int) != (k : Int)) = true := by simp; omega
        have HE := Lib.hid hpe
        clear hpe he
        go_wp2_with (at_builtin; refine app_f elBx rfl (.tmp 25) (.tmp 33) rfl w.heap.size l _ la lc rfl (HO.out.alloc _) p wr.heap.size rfl (by exact Mem.news_new wr _ [_, _, _, _, _]) (Nat.le_trans HLN.out (by decide)) ((HKR.out.alloc _).size) ?_; intro g' cap' w2 hown hgrow; have HG := Lib.hid (And.intro hown hgrow); clear hown hgrow)
        go_roundw
        case rel =>
          refine ⟨i + 1, l ++ [p], some ⟨g', 0, none⟩, cap', by rw [Int.natCast_add]; rfl, by omega, by simp, by simp; omega, ?_, own_n HG.out.1 (by simp), (HKR.out.alloc _).grown HG.out.2 (fun k hk e => absurd (HO.out.lt k e).1 (by omega))⟩
          have h1 := HD.out
          rw [HP.out.2] at h1
          rw [← h1]
          unfold delB
          rw [List.filter_cons, if_pos (by simp [HE.out]), List.append_assoc]; rfl
        case measure => simp only [intOf]; omega
    · obtain rfl : i = n := by omega
      have he : l = delB id L := by
        have h1 := HD.out
        rw [HN.out, List.drop_length] at h1
        simpa [delB] using h1
      have hf := (H.out.blk.keeps hK (fun h => h)).frozen 1
      have HE := Lib.hid he
      clear he hK
      go_wp2
      go_ret
      refine ⟨rfl, ?_⟩
      rw [← HE.out]
      exact did_store H.out HKR.out HO.out
theorem del_no (w : World) (R : Nat) (s : Int) (a : Option Addr) (cp : Nat) (L : List (Nat × Bx)) (h : RG w R s a cp L) (hl : L.length ≤ 1000000) (id : Nat) (hno : ∀ p ∈ L, p.1 ≠ id) :
    Calls Try.prog 25 #[.pointer (some ⟨R, 0, none⟩), .int .u32 (id : Int)] w fun e w' => e = .returned (.int .i64 141) ∧ w = w' := by
  have HAt := Lib.hid (at_no w R s a cp L h hl id hno)
  clear h hno
  go_enter Try.func25, Try.ntmps25
  go_wp2_with (go_at_call 44; (with_reducible refine HAt.out.mono ?_); rintro e w1 ⟨rfl, rfl⟩)
  go_ret
  exact ⟨rfl, rfl⟩
end Gx
end Go.Proofs.Ytdbpfbokfmpgcaa
namespace Go.Proofs.Ytdbpfbokfmpgcaa
open Go.RowKit Go.Shelf
set_option linter.unusedVariables false
set_option linter.unusedSimpArgs false
set_option linter.ambiguousOpen false
attribute [local go_sem] Oper.semAt_some
namespace Gx
open Mem Gr Gs
theorem RG.five {w : World} {R : Nat} {s : Int} {g cp : Nat} {L : List (Nat × Bx)} (h : RG w R s (some ⟨g, 0, none⟩) cp L) {i : Nat} {p : Nat × Bx} (hp : L[i]? = some p) :
    w.cell? ⟨g, i * 5, none⟩ = some (.int .u32 (p.1 : Int)) ∧ w.cell? ⟨g, i * 5 + 1, none⟩ = some (.int .i32 p.2.x0) ∧ w.cell? ⟨g, i * 5 + 2, none⟩ = some (.int .i32 p.2.y0) ∧ w.cell? ⟨g, i * 5 + 3, none⟩ = some (.int .i32 p.2.x1) ∧ w.cell? ⟨g, i * 5 + 4, none⟩ = some (.int .i32 p.2.y1) := by
  obtain ⟨g', hg, hc⟩ := h.row hp
  cases hg
  exact ⟨hc 0 _ rfl, hc 1 _ rfl, hc 2 _ rfl, hc 3 _ rfl, hc 4 _ rfl⟩
theorem len_app {l : List (Nat × Bx)} {q : Nat × Bx} (h : l.length ≤ 100001) : (l ++ [q]).length ≤ 1000000000 := by simp; omega
theorem drop_at {L : List (Nat × Bx)} {i : Nat} {p : Nat × Bx} (hp : L[i]? = some p) : L.drop i = p :: L.drop (i + 1) := by
  have hil : i < L.length := (List.getElem?_eq_some_iff.1 hp).1
  rw [List.drop_eq_getElem_cons hil]
  rw [List.getElem?_eq_getElem hil] at hp
  cases hp; rfl
theorem take_at {L : List (Nat × Bx)} {i : Nat} {p : Nat × Bx} (hp : L[i]? = some p) : L.take (i + 1) = L.take i ++ [p] := by
  rw [List.take_add_one, hp]; rfl
theorem put_142 (w : World) (R : Nat) (b : Bx) (hb : ¬ Right b) (id : Nat) :
    Calls Try.prog 23 #[.pointer (some ⟨R, 0, none⟩), .int .u32 (id : Int), .agg #[.int .i32 b.x0, .int .i32 b.y0, .int .i32 b.x1, .int .i32 b.y1]] w fun e w' => e = .returned (.int .i64 142) ∧ Keeps (fun _ => False) w w' := by
  have zr := right_r b
  simp only [hb, decide_false] at zr
  have ZR := Lib.hid zr
  clear hb zr
  go_enter Try.func23, Try.ntmps23
  go_wp2_with (go_at_call 43; (with_reducible refine (ZR.out _).mono ?_); rintro e w1 ⟨rfl, hk1⟩; have HK1 := Lib.hid (((Keeps.refl (fun _ => False) w).alloc (.cells #[.int .i32 b.x0, .int .i32 b.y0, .int .i32 b.x1, .int .i32 b.y1] 35)).trans hk1); clear hk1)
  go_ret
  exact ⟨rfl, HK1.out⟩
theorem put_140 (w : World) (R : Nat) (s : Int) (a : Option Addr) (cp : Nat) (L : List (Nat × Bx)) (h : RG w R s a cp L) (hl : L.length ≤ 100000) (hnd : (L.map (·.1)).Nodup) (id : Nat) (k : Nat) (q : Nat × Bx) (hk : L[k]? = some q) (hq : q.1 = id) (b : Bx) (hb : Right b) :
    Calls Try.prog 23 #[.pointer (some ⟨R, 0, none⟩), .int .u32 (id : Int), .agg #[.int .i32 b.x0, .int .i32 b.y0, .int .i32 b.x1, .int .i32 b.y1]] w fun e w' => e = .returned (.int .i64 140) ∧ Keeps (fun _ => False) w w' := by
  have HAt := Lib.hid (fun W (hK : Keeps (fun _ => False) w W) => at_yes W R s a cp L (h.kd hK) (by omega) hnd id k q hk hq)
  have zr := right_r b
  simp only [hb, decide_true] at zr
  have ZR := Lib.hid zr
  have hk0 : (0 : Int) ≤ (k : Int) := by omega
  clear hb zr h hl hnd hk hq
  go_enter Try.func23, Try.ntmps23
  go_wp2_with (first
    | (go_at_call 43; (with_reducible refine (ZR.out _).mono ?_); rintro e w1 ⟨rfl, hk1⟩; have HK1 := Lib.hid (((Keeps.refl (fun _ => False) w).alloc (.cells #[.int .i32 b.x0, .int .i32 b.y0, .int .i32 b.x1, .int .i32 b.y1] 35)).trans hk1); clear hk1)
    | (go_at_call 44; (with_reducible refine (HAt.out _ HK1.out).mono ?_); rintro e w2 ⟨rfl, rfl⟩))
  go_ret
  exact ⟨rfl, HK1.out⟩
set_option maxHeartbeats 8000000 in
set_option maxRecDepth 100000 in
theorem put_ok (w : World) (R : Nat) (s : Int) (a : Option Addr) (cp : Nat) (L : List (Nat × Bx)) (h : RG w R s a cp L) (hl : L.length ≤ 100000) (id : Nat) (hno : ∀ p ∈ L, p.1 ≠ id) (b : Bx) (hb : Right b) :
    Calls Try.prog 23 #[.pointer (some ⟨R, 0, none⟩), .int .u32 (id : Int), .agg #[.int .i32 b.x0, .int .i32 b.y0, .int .i32 b.x1, .int .i32 b.y1]] w fun e w' => e = .returned (.int .i64 0) ∧ DidG R s (insB id b L) w w' := by
  have HAt := Lib.hid (fun W (hK : Keeps (fun _ => False) w W) => at_no W R s a cp L (h.kd hK) (by omega) id hno)
  have zr := right_r b
  simp only [hb, decide_true] at zr
  have ZR := Lib.hid zr
  obtain ⟨n, hn⟩ : ∃ n : Nat, n = L.length := ⟨_, rfl⟩
  rw [← hn] at hl
  have hnI : (n : Int) ≤ 100000 := by omega
  have HN := Lib.hid hn
  have H := Lib.hid h
  clear hn h hl hno hb zr
  go_enter Try.func23, Try.ntmps23
  go_wp2_with (first
    | (go_at_call 43; (with_reducible refine (ZR.out _).mono ?_); rintro e w1 ⟨rfl, hk1⟩; have HB1 := Lib.hid ((Blk.new w 35 [.int .i32 b.x0, .int .i32 b.y0, .int .i32 b.x1, .int .i32 b.y1]).keeps hk1 (fun h => h)); have HK1 := Lib.hid (((Keeps.refl (fun _ => False) w).alloc (.cells #[.int .i32 b.x0, .int .i32 b.y0, .int .i32 b.x1, .int .i32 b.y1] 35)).trans hk1); clear hk1)
    | (go_at_call 44; (with_reducible refine (HAt.out _ HK1.out).mono ?_); rintro e w2 ⟨rfl, rfl⟩))
  go_loopw [7, 8, 9] (fun v d q wr => ∃ (i : Nat) (l : List (Nat × Bx)) (la : Option Addr) (lc : Nat) (dn : Bool), q = .int .i64 (i : Int) ∧ i ≤ n ∧ v = .slice la l.length lc ∧ d = .bool dn ∧ l.length ≤ i + dn.toNat ∧ l ++ (if dn = true then L.drop i else insB id b (L.drop i)) = insB id b L ∧ wr.ownsRow w1.heap.size 68 5 (.slice la l.length lc) l.length (bxdL l) ∧ Keeps (fun _ => False) w1 wr) (fun _ _ q _ => n - (intOf q).toNat)
  case atStart => exact ⟨0, [], none, 0, false, rfl, Nat.zero_le _, rfl, rfl, Nat.zero_le _, rfl, World.ownsRow_nil _ _ _ _, Keeps.refl _ _⟩
  case round =>
    obtain ⟨i, l, la, lc, dn, rfl, hi, rfl, rfl, hll, hins, hO, hK⟩ := hrel
    have cR := (H.out.blk.keeps (HK1.out.trans hK) (fun h => h)).cell
    rw [← HN.out] at cR
    have cB := (HB1.out.keeps hK (fun h => h)).cell
    have HO := Lib.hid hO
    have HKR := Lib.hid hK
    have HD := Lib.hid hins
    have HLN := Lib.hid (show l.length ≤ 100001 by have := Bool.toNat_le dn; omega)
    have HL2 := Lib.hid hll
    clear hO hins hll
    by_cases hlt : i < n
    · obtain ⟨p, hp⟩ : ∃ p, L[i]? = some p := ⟨_, List.getElem?_eq_getElem (by have := HN.out; omega)⟩
      obtain ⟨g, rfl, -⟩ := (H.out.kd (HK1.out.trans hK)).row hp
      obtain ⟨c0, c1, c2, c3, c4⟩ := (H.out.kd (HK1.out.trans hK)).five hp
      have hltI : (i : Int) < (n : Int) := by omega
      have HP := Lib.hid (And.intro hp (drop_at hp))
      clear hp hK
      cases dn with
      | true =>
        go_wp2_with (at_builtin; refine app_f elBx rfl (.tmp 46) (.tmp 54) rfl w1.heap.size (l) _ (la) lc rfl (HO.out.alloc _) p wr.heap.size rfl (by exact Mem.news_new wr _ [_, _, _, _, _]) (Nat.le_trans HLN.out (by decide)) ((HKR.out.alloc _).size) ?_; intro g' cap' w2 hown hgrow; have HG := Lib.hid (And.intro hown hgrow); clear hown hgrow)
        go_roundw
        case rel =>
          refine ⟨i + 1, l ++ [p], some ⟨g', 0, none⟩, cap', true, by rw [Int.natCast_add]; rfl, by omega, by simp, rfl, by have h := HL2.out; simp at h ⊢; omega, ?_, own_n HG.out.1 (by simp), (HKR.out.alloc _).grown HG.out.2 (fun k hk e => absurd (HO.out.lt k e).1 (by omega))⟩
          have h1 := HD.out
          rw [HP.out.2] at h1
          rw [← h1, List.append_assoc]; rfl
        case measure => simp only [intOf]; omega
      | false =>
        by_cases hid : id < p.1
        · have hidI : (id : Int) < (p.1 : Int) := by omega
          have HE := Lib.hid hid
          clear hid
          go_wp2_with (first
            | ((at_builtin; refine app_f elBx rfl (.tmp 40) (.tmp 44) rfl w1.heap.size (l) _ (la) lc rfl (HO.out.alloc _) (id, b) wr.heap.size rfl (by exact Mem.news_new wr _ [_, _, _, _, _]) (Nat.le_trans HLN.out (by decide)) ((HKR.out.alloc _).size) ?_; intro g' cap' w2 hown hgrow; have HG := Lib.hid (And.intro hown hgrow); clear hown hgrow); have HK2 := Lib.hid ((HKR.out.alloc (.cells #[.int .u32 (id : Int), .int .i32 b.x0, .int .i32 b.y0, .int .i32 b.x1, .int .i32 b.y1] 68)).grown HG.out.2 (fun k hk e => absurd (HO.out.lt k e).1 (by omega))); clear cR cB c0 c1 c2 c3 c4; have cR := (H.out.blk.keeps (HK1.out.trans HK2.out) (fun h => h)).cell; rw [← HN.out] at cR; obtain ⟨c0, c1, c2, c3, c4⟩ := (H.out.kd (HK1.out.trans HK2.out)).five HP.out.1)
            | (at_builtin; refine app_f elBx rfl (.tmp 46) (.tmp 54) rfl w1.heap.size (l ++ [(id, b)]) _ (some ⟨g', 0, none⟩) cap' rfl (HG.out.1.alloc _) p w2.heap.size rfl (by exact Mem.news_new w2 _ [_, _, _, _, _]) (Nat.le_trans (Nat.succ_le_succ HLN.out) (by decide)) ((HK2.out.alloc _).size) ?_; intro g2 cap2 w3 hown hgrow; have HG2 := Lib.hid (And.intro hown hgrow); clear hown hgrow))
          go_roundw
          case rel =>
            refine ⟨i + 1, l ++ [(id, b)] ++ [p], some ⟨g2, 0, none⟩, cap2, true, by rw [Int.natCast_add]; rfl, by omega, by simp, rfl, by have h := HL2.out; simp at h ⊢; omega, ?_, own_n HG2.out.1 (by simp), (HK2.out.alloc _).grown HG2.out.2 (fun k hk e => absurd (HG.out.1.lt k e).1 (by omega))⟩
            have h1 := HD.out
            rw [HP.out.2] at h1
            rw [← h1, List.append_assoc, List.append_assoc]
            simp only [if_true, Bool.false_eq_true, if_false, insB]
            rw [if_pos HE.out]; rfl
          case measure => simp only [intOf]; omega
        · have hidI : ¬ (id : Int) < (p.1 : Int) := by omega
          have HE := Lib.hid hid
          clear hid
          go_wp2_with (at_builtin; refine app_f elBx rfl (.tmp 46) (.tmp 54) rfl w1.heap.size (l) _ (la) lc rfl (HO.out.alloc _) p wr.heap.size rfl (by exact Mem.news_new wr _ [_, _, _, _, _]) (Nat.le_trans HLN.out (by decide)) ((HKR.out.alloc _).size) ?_; intro g' cap' w2 hown hgrow; have HG := Lib.hid (And.intro hown hgrow); clear hown hgrow)
          go_roundw
          case rel =>
            refine ⟨i + 1, l ++ [p], some ⟨g', 0, none⟩, cap', false, by rw [Int.natCast_add]; rfl, by omega, by simp, rfl, by have h := HL2.out; simp at h ⊢; omega, ?_, own_n HG.out.1 (by simp), (HKR.out.alloc _).grown HG.out.2 (fun k hk e => absurd (HO.out.lt k e).1 (by omega))⟩
            have h1 := HD.out
            rw [HP.out.2] at h1
            rw [← h1, List.append_assoc]
            simp only [Bool.false_eq_true, if_false, insB]
            rw [if_neg HE.out]; rfl
          case measure => simp only [intOf]; omega
    · obtain rfl : i = n := by omega
      have hf := (H.out.blk.keeps (HK1.out.trans hK) (fun h => h)).frozen 1
      have he : l ++ (if dn = true then [] else [(id, b)]) = insB id b L := by
        have h1 := HD.out
        rw [HN.out, List.drop_length] at h1
        exact h1
      have HE := Lib.hid he
      clear he hK
      cases dn with
      | true =>
        go_wp2
        go_ret
        refine ⟨rfl, ?_⟩
        have e := HE.out
        simp only [if_true, List.append_nil] at e
        rw [← e]
        exact did_store H.out (HK1.out.trans HKR.out) (own_mono HO.out HK1.out.size)
      | false =>
        go_wp2_with ((at_builtin; refine app_f elBx rfl (.tmp 58) (.tmp 62) rfl w1.heap.size (l) _ (la) lc rfl (HO.out.alloc _) (id, b) wr.heap.size rfl (by exact Mem.news_new wr _ [_, _, _, _, _]) (Nat.le_trans HLN.out (by decide)) ((HKR.out.alloc _).size) ?_; intro g' cap' w2 hown hgrow; have HG := Lib.hid (And.intro hown hgrow); clear hown hgrow); have HK2 := Lib.hid ((HKR.out.alloc (.cells #[.int .u32 (id : Int), .int .i32 b.x0, .int .i32 b.y0, .int .i32 b.x1, .int .i32 b.y1] 68)).grown HG.out.2 (fun k hk e => absurd (HO.out.lt k e).1 (by omega))); clear cR cB hf; have cR := (H.out.blk.keeps (HK1.out.trans HK2.out) (fun h => h)).cell; have hf := (H.out.blk.keeps (HK1.out.trans HK2.out) (fun h => h)).frozen 1)
        go_ret
        refine ⟨rfl, ?_⟩
        have e := HE.out
        simp only [Bool.false_eq_true, if_false] at e
        rw [← e]
        have := did_store H.out (HK1.out.trans HK2.out) (own_n (m := (l ++ [(id, b)]).length) (own_mono HG.out.1 HK1.out.size) (by simp))
        simpa using this

theorem farL_app (s : Int) (A B : List (Nat × Bx)) : farL s (A ++ B) = farL s A ++ farL s B := by simp [farL]
set_option maxHeartbeats 4000000 in
theorem apart_r (w : World) (R : Nat) (s : Int) (a : Option Addr) (cp : Nat) (L : List (Nat × Bx)) (h : RG w R s a cp L) (hs : Size s) (hl : L.length ≤ 100000) (hR : ∀ p ∈ L, Right p.2) :
    Calls Try.prog 29 #[.pointer (some ⟨R, 0, none⟩)] w fun e w' => e = .returned (.int .i64 ((farL s L).length : Int)) ∧ Keeps (fun _ => False) w w' := by
  obtain ⟨n, hn⟩ : ∃ n : Nat, n = L.length := ⟨_, rfl⟩
  rw [← hn] at hl
  have hnI : (n : Int) ≤ 100000 := by omega
  have HN := Lib.hid hn
  have H := Lib.hid h
  have HR := Lib.hid hR
  have HS := Lib.hid hs
  clear hn h hl hR hs
  go_enter Try.func29, Try.ntmps29
  go_wp2
  go_loopw [3, 4] (fun c q wr => ∃ i : Nat, q = .int .i64 (i : Int) ∧ i ≤ n ∧ c = .int .i64 ((farL s (L.take i)).length : Int) ∧ Keeps (fun _ => False) w wr) (fun _ q _ => n - (intOf q).toNat)
  case atStart => exact ⟨0, rfl, Nat.zero_le _, rfl, Keeps.refl _ _⟩
  case round =>
    obtain ⟨i, rfl, hi, rfl, hK⟩ := hrel
    have cR := (H.out.blk.keeps hK (fun h => h)).cell
    rw [← HN.out] at cR
    have HK := Lib.hid hK
    obtain ⟨m, hm⟩ : ∃ m : Nat, m = (farL s (L.take i)).length := ⟨_, rfl⟩
    have hmI : (m : Int) ≤ 100000 := by
      have : (farL s (L.take i)).length ≤ (L.take i).length := List.length_filter_le _ _
      have : (L.take i).length ≤ i := List.length_take_le _ _
      omega
    have hm0 : (0 : Int) ≤ m := by omega
    rw [← hm]
    have HM := Lib.hid hm
    clear hm
    by_cases hlt : i < n
    · obtain ⟨p, hp⟩ : ∃ p, L[i]? = some p := ⟨_, List.getElem?_eq_getElem (by have := HN.out; omega)⟩
      obtain ⟨g, rfl, -⟩ := (H.out.kd hK).row hp
      obtain ⟨c0, c1, c2, c3, c4⟩ := (H.out.kd hK).five hp
      have hltI : (i : Int) < (n : Int) := by omega
      have hRp := HR.out p (List.mem_of_getElem? hp)
      have zc := cells_r wr R s _ (H.out.blk.keeps hK (fun h => h)) HS.out p.2 hRp
      obtain ⟨cn, hcn⟩ : ∃ cn, cn = cnt s p.2 := ⟨_, rfl⟩
      rw [← hcn] at zc
      have HZ := Lib.hid zc
      have HP := Lib.hid (And.intro hp hcn)
      clear hp hK hRp zc hcn c0
      by_cases hc : cn > 1024
      · have HC := Lib.hid hc
        go_wp2_with (go_at_call 21; (with_reducible refine HZ.out.mono ?_); rintro e w2 ⟨rfl, hk2⟩; have HK2 := Lib.hid (HK.out.trans hk2); clear hk2)
        go_roundw
        case rel =>
          refine ⟨i + 1, by rw [Int.natCast_add]; rfl, by omega, ?_, HK2.out⟩
          rw [take_at HP.out.1, farL_app, List.length_append, ← HM.out]
          have : farL s [p] = [p] := by simp [farL, ← HP.out.2]; exact HC.out
          rw [this]; rfl
        case measure => simp only [intOf]; omega
      · have HC := Lib.hid hc
        go_wp2_with (go_at_call 21; (with_reducible refine HZ.out.mono ?_); rintro e w2 ⟨rfl, hk2⟩; have HK2 := Lib.hid (HK.out.trans hk2); clear hk2)
        go_roundw
        case rel =>
          refine ⟨i + 1, by rw [Int.natCast_add]; rfl, by omega, ?_, HK2.out⟩
          rw [take_at HP.out.1, farL_app, List.length_append, ← HM.out]
          have : farL s [p] = [] := by simp [farL, ← HP.out.2]; have := HC.out; omega
          rw [this]; rfl
        case measure => simp only [intOf]; omega
    · obtain rfl : i = n := by omega
      have HE := Lib.hid (show m = (farL s L).length by have := HM.out; rw [HN.out, List.take_length] at this; exact this)
      clear hK
      go_wp2
      go_ret
      refine ⟨?_, HK.out⟩
      have e := HE.out
      subst e
      rfl
end Gx
end Go.Proofs.Ytdbpfbokfmpgcaa
