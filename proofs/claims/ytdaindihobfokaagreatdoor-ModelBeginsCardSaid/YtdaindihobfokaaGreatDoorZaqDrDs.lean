/-
Dr: drawn regions by hand: an operation taken, one skipped; ways that meet again.
Ds: a drawn region's operations that only make memory of their own, in whatever order: one proof for all orders.
-/
import Derived.Test.YtdaindihobfokaaGreatDoorZaaMbPMem
import Derived.Deep.RegionHeld
namespace Go.Proofs.YtdaindihobfokaaGreatDoor
open Go.RowKit
set_option linter.unusedVariables false
set_option linter.unusedSimpArgs false
namespace Dr
section
variable {P : Program} {md : Region.Mode} {ops : Array Oper} {Q : Exit → Act → World → Prop} {S : World → Prop}
theorem anyH_two (i j : Nat) {oi oj : Oper} {fuel : Nat} {listed : Array Bool} {a : Act} {w : World} (hr : Region.ready md ops listed = [i, j]) (hoi : ops[i]? = some oi) (hwi : Region.wanted oi (yielded ops a.tmps) = true) (hoj : ops[j]? = some oj) (hwj : Region.wanted oj (yielded ops a.tmps) = true)
    (h : ∀ K' : Act → World → Prop, (∀ a' w', S w' → wpAnyH P md ops Q S fuel (listed.setIfInBounds i true) a' w' → K' a' w') → Oper.wp P oi a w K' Q)
    (h2 : ∀ K' : Act → World → Prop, (∀ a' w', S w' → wpAnyH P md ops Q S fuel (listed.setIfInBounds j true) a' w' → K' a' w') → Oper.wp P oj a w K' Q) : wpAnyH P md ops Q S (fuel + 1) listed a w :=
  wpAnyH_ready hr (by simp) (AllReadyH.cons hoi (fun K hK => by rw [if_pos hwi]; exact h K (fun a w hS hW => hK.out a w hS (fun _ => hW))) (AllReadyH.cons hoj (fun K hK => by rw [if_pos hwj]; exact h2 K (fun a w hS hW => hK.out a w hS (fun _ => hW))) AllReadyH.nil))
/-- an operation that may come up now is taken first -/
theorem tk {K0 : Act → World → Prop} (i : Nat) {oi : Oper} {v : Value} {fuel : Nat} {listed : Array Bool} {a : Act} {w : World} (hi : ops[i]? = some oi) (hc : (Region.noSelect ops && Region.free md ops listed i && (Region.ready md ops listed).contains i) = true)
    (hw : Region.wanted oi (yielded ops a.tmps) = true) (hS : S w) (hy : ∀ w, S w → (execOp a.eval oi).run P w = .ok (.value v) w) (h : wpAnyH P md ops (Exit.then K0 (fun _ _ _ => False)) S fuel (listed.setIfInBounds i true) (a.put oi.dst v) w) : wpAnyH P md ops (Exit.then K0 (fun _ _ _ => False)) S (fuel + 1) listed a w := by
  simp only [Bool.and_eq_true] at hc
  exact wpAnyH_take hi hc.1.1 hc.1.2 hc.2 (fun _ _ _ h => False.elim h) (.inl ⟨hw, hy⟩) hS h
/-- one whose guard is not met -/
theorem sk {K0 : Act → World → Prop} (i : Nat) {oi : Oper} {fuel : Nat} {listed : Array Bool} {a : Act} {w : World} (hi : ops[i]? = some oi) (hc : (Region.noSelect ops && Region.free md ops listed i && (Region.ready md ops listed).contains i) = true)
    (hw : Region.wanted oi (yielded ops a.tmps) = false) (hS : S w) (h : wpAnyH P md ops (Exit.then K0 (fun _ _ _ => False)) S fuel (listed.setIfInBounds i true) (a.put oi.dst undef) w) : wpAnyH P md ops (Exit.then K0 (fun _ _ _ => False)) S (fuel + 1) listed a w := by
  simp only [Bool.and_eq_true] at hc
  exact wpAnyH_take hi hc.1.1 hc.1.2 hc.2 (fun _ _ _ h => False.elim h) (.inr ⟨hw, rfl⟩) hS h
end
section
variable {α : Type} {l : List α} {x y : α} {n : Nat}
theorem y0 (l : List Value) (d : List Deferred) (i : Nat) (v : Value) : Act.put ⟨⟨l⟩, d⟩ (some i) v = ⟨⟨l.set i v⟩, d⟩ := by simp [Act.put]
theorem y1 (h : n < l.toArray.size) : l.toArray[n] = l[n]'(by simpa using h) := List.getElem_toArray h
theorem y2 (h : n + 1 < (x :: l).length) : (x :: l)[n + 1] = l[n]'(by simpa using h) := rfl
theorem y3 (h : 0 < (x :: l).length) : (x :: l)[0] = x := rfl
theorem y4 : l.toArray.setIfInBounds n x = (l.set n x).toArray := by simp
theorem y5 : (x :: l).set 0 y = y :: l := rfl
theorem y6 : (x :: l).set (n + 1) y = x :: l.set n y := rfl
end
section
variable {P : Program} {md : Region.Mode} {ops : Array Oper} {Q : Exit → Act → World → Prop} {S : World → Prop}
theorem tK {K0 : Act → World → Prop} (i : Nat) {oi : Oper} {v : Value} {fuel : Nat} {listed : Array Bool} {a a' : Act} {w : World} (hS : S w) (h : wpAnyH P md ops (Exit.then K0 (fun _ _ _ => False)) S fuel (listed.setIfInBounds i true) a' w)
    (hi : ops[i]? = some oi := by rfl) (hc : (Region.noSelect ops && Region.free md ops listed i && (Region.ready md ops listed).contains i) = true := by kernel_rfl)
    (hw : Region.wanted oi (yielded ops a.tmps) = true := by kernel_rfl) (hy : ∀ w, S w → (execOp a.eval oi).run P w = .ok (.value v) w := by (rintro w hSw; (try dsimp only at hSw); go_simp; (try with_reducible rfl))) (ha : a.put oi.dst v = a' := by (simp only [y0, y1, y2, y3, y4, y5, y6]; rfl)) : wpAnyH P md ops (Exit.then K0 (fun _ _ _ => False)) S (fuel + 1) listed a w := tk i hi hc hw hS hy (ha ▸ h)
theorem sK {K0 : Act → World → Prop} (i : Nat) {oi : Oper} {fuel : Nat} {listed : Array Bool} {a a' : Act} {w : World} (hS : S w) (h : wpAnyH P md ops (Exit.then K0 (fun _ _ _ => False)) S fuel (listed.setIfInBounds i true) a' w)
    (hi : ops[i]? = some oi := by rfl) (hc : (Region.noSelect ops && Region.free md ops listed i && (Region.ready md ops listed).contains i) = true := by kernel_rfl)
    (hw : Region.wanted oi (yielded ops a.tmps) = false := by kernel_rfl) (ha : a.put oi.dst undef = a' := by (simp only [y0, y1, y2, y3, y4, y5, y6]; rfl)) : wpAnyH P md ops (Exit.then K0 (fun _ _ _ => False)) S (fuel + 1) listed a w := sk i hi hc hw hS (ha ▸ h)
theorem join_one {P : Program} {c : Code} {K : Act → World → Prop} {Q : Exit → Act → World → Prop} {a A : Act} {w W : World} (h : c.wp P (Exit.then (fun a' w' => a' = A ∧ w' = W) (fun _ _ _ => False)) a w) (k : K A W) : c.wp P (Exit.then K Q) a w :=
  Code.wp_mono (fun e a' w' he => by
    cases e with
    | normal => obtain ⟨rfl, rfl⟩ := he; exact k
    | _ => exact he.elim) h
theorem join_w {P : Program} {c : Code} {K : Act → World → Prop} {Q : Exit → Act → World → Prop} {a A : Act} {w : World} (S : World → Prop) (h : c.wp P (Exit.then (fun a' w' => a' = A ∧ S w') (fun _ _ _ => False)) a w) (k : ∀ W, S W → K A W) : c.wp P (Exit.then K Q) a w :=
  Code.wp_mono (fun e a' w' he => by
    cases e with
    | normal => obtain ⟨rfl, h2⟩ := he; exact k _ h2
    | _ => exact he.elim) h
theorem join_q {P : Program} {c : Code} {Q : Exit → Act → World → Prop} {a A : Act} {w : World} (S : World → Prop) (h : c.wp P (Exit.then (fun a' w' => a' = A ∧ S w') (fun _ _ _ => False)) a w) (k : ∀ W, S W → Q .normal A W) : c.wp P Q a w :=
  Code.wp_mono (fun e a' w' he => by
    cases e with
    | normal => obtain ⟨rfl, h2⟩ := he; exact k _ h2
    | _ => exact he.elim) h
theorem join_k {P : Program} {c : Code} {Q : Exit → Act → World → Prop} {a : Act} {w : World} (h : c.wp P (Exit.then (fun a' w' => Q .normal a' w') (fun _ _ _ => False)) a w) : c.wp P Q a w :=
  Code.wp_mono (fun e a' w' he => by
    cases e with
    | normal => exact he
    | _ => exact he.elim) h
end
end Dr
end Go.Proofs.YtdaindihobfokaaGreatDoor
namespace Go.Proofs.YtdaindihobfokaaGreatDoor
open Go.RowKit
set_option linter.unusedVariables false
set_option linter.unusedSimpArgs false
namespace Dr
open Mem
def subs : List Nat → List (List Nat)
  | [] => [[]]
  | x :: l => subs l ++ (subs l).map (x :: ·)
theorem filter_subs (p : Nat → Bool) : ∀ M : List Nat, M.filter p ∈ subs M
  | [] => by simp [subs]
  | x :: l => by
    have := filter_subs p l
    rw [subs, List.filter_cons]
    split
    · exact List.mem_append_right _ (List.mem_map.2 ⟨_, this, rfl⟩)
    · exact List.mem_append_left _ this
def markL (D : List Nat) : List Bool → Nat → List Bool
  | [], _ => []
  | b :: l, j => (b || D.contains j) :: markL D l (j + 1)
theorem markL_len (D : List Nat) : ∀ (l : List Bool) (j : Nat), (markL D l j).length = l.length
  | [], _ => rfl
  | b :: l, j => by rw [markL, List.length_cons, markL_len D l, List.length_cons]
theorem markL_get (D : List Nat) : ∀ (l : List Bool) (j i : Nat) (h : i < (markL D l j).length) (h' : i < l.length), (markL D l j)[i] = (l[i] || D.contains (j + i))
  | b :: l, j, 0, h, h' => by simp [markL]
  | b :: l, j, i + 1, h, h' => by
    simp only [markL, List.getElem_cons_succ]
    rw [markL_get D l (j + 1) i (by simpa [markL] using h) (by simpa using h'), show j + 1 + i = j + (i + 1) by omega]
/-- the operations D are listed too -/
def mark (L : Array Bool) (D : List Nat) : Array Bool := (markL D L.toList 0).toArray
theorem mark_size (L : Array Bool) (D : List Nat) : (mark L D).size = L.size := by simp [mark, markL_len]
theorem mark_get (L : Array Bool) (D : List Nat) (i : Nat) (h : i < (mark L D).size) (h' : i < L.size) : (mark L D)[i] = (L[i] || D.contains i) := by
  simp only [mark, List.getElem_toArray]
  rw [markL_get D L.toList 0 i (by simpa [mark] using h) (by simpa using h')]
  simp
theorem mark_nil (L : Array Bool) : mark L [] = L := by
  apply Array.ext
  · exact mark_size L []
  · intro i h1 h2; rw [mark_get L [] i h1 h2]; simp
def upd (f : Nat → Value) (i : Nat) (v : Value) : Nat → Value := fun j => if j = i then v else f j
theorem drop_one {i : Nat} : ∀ {l : List Nat}, l.Nodup → i ∈ l → (l.filter fun j => !(j == i)).length = l.length - 1
  | [], _, h => by cases h
  | x :: l, hn, h => by
    rw [List.nodup_cons] at hn
    by_cases hx : x = i
    · subst hx
      have e : (l.filter fun j => !(j == x)) = l := List.filter_eq_self.2 (fun j hj => by
        have : j ≠ x := fun e => hn.1 (e ▸ hj)
        simp [this])
      rw [List.filter_cons]
      simp [e]
    · have hl : i ∈ l := by
        rcases List.mem_cons.1 h with h | h
        · exact absurd h.symm hx
        · exact h
      have := drop_one hn.2 hl
      have hpos : 0 < l.length := List.length_pos_of_mem hl
      rw [List.filter_cons]
      simp [hx, this]
      omega
section
variable {P : Program} {md : Region.Mode} {ops : Array Oper} {Q : Exit → Act → World → Prop} {S : World → Prop}
theorem mark_set (L : Array Bool) (M : List Nat) (p : Nat → Bool) (i : Nat) (hi : i ∈ M) : (mark L (M.filter p)).setIfInBounds i true = mark L (M.filter fun j => p j || j == i) := by
  apply Array.ext
  · simp [mark_size]
  · intro j h1 h2
    have hj : j < L.size := by simpa [mark_size] using h2
    rw [Array.getElem_setIfInBounds (by simpa [mark_size] using hj), mark_get L _ j h2 hj, mark_get L _ j (by simpa [mark_size] using hj) hj]
    rw [Bool.eq_iff_iff]
    simp only [Bool.or_eq_true, List.contains_iff_mem, List.mem_filter, beq_iff_eq]
    by_cases hji : i = j
    · subst hji
      simp [hi]
    · rw [if_neg hji]
      simp only [Bool.or_eq_true, List.contains_iff_mem, List.mem_filter]
      constructor
      · rintro (h | ⟨h, h'⟩)
        · exact .inl h
        · exact .inr ⟨h, .inl h'⟩
      · rintro (h | ⟨h, h' | h'⟩)
        · exact .inl h
        · exact .inr ⟨h, h'⟩
        · exact absurd h'.symm hji
theorem allocs_from (M : List Nat) (hnd : M.Nodup) (F : (Nat → Value) → Act) (w0 : World) (Post : Nat → Value → World → Prop) (bl : Value → Nat) (L : Array Bool)
    (hS : ∀ w, Keeps (fun _ => False) w0 w → S w)
    (hready : ((subs M).all fun D => D == M || Region.ready md ops (mark L D) == M.filter fun i => !D.contains i) = true)
    (hstep : ∀ i ∈ M, ∃ oi, ops[i]? = some oi ∧ (∀ f, Region.wanted oi (yielded ops (F f).tmps) = true) ∧ ∀ f w (K : Act → World → Prop), Keeps (fun _ => False) w0 w → (∀ v w', Keeps (fun _ => False) w w' → Post i v w' → w.heap.size ≤ bl v → bl v < w'.heap.size → K (F (upd f i v)) w') → Oper.wp P oi (F f) w K Q)
    (hmono : ∀ i ∈ M, ∀ v w w', Keeps (fun _ => False) w w' → Post i v w → Post i v w') (fuel : Nat)
    (hend : ∀ f w, Keeps (fun _ => False) w0 w → (∀ i ∈ M, Post i (f i) w ∧ w0.heap.size ≤ bl (f i) ∧ bl (f i) < w.heap.size) → (∀ i ∈ M, ∀ j ∈ M, i ≠ j → bl (f i) ≠ bl (f j)) → wpAnyH P md ops Q S fuel (mark L M) (F f) w) :
    ∀ (n : Nat) (p : Nat → Bool) (f : Nat → Value) (w : World), (M.filter fun j => !p j).length = n → Keeps (fun _ => False) w0 w → (∀ i ∈ M, p i = true → Post i (f i) w ∧ w0.heap.size ≤ bl (f i) ∧ bl (f i) < w.heap.size) → (∀ i ∈ M, ∀ j ∈ M, p i = true → p j = true → i ≠ j → bl (f i) ≠ bl (f j)) →
      wpAnyH P md ops Q S (fuel + n) (mark L (M.filter p)) (F f) w := by
  intro n
  induction n with
  | zero =>
    intro p f w hn hk hp hd
    have hall : ∀ i ∈ M, p i = true := fun i hi => by
      cases hpi : p i with
      | true => rfl
      | false =>
        have : i ∈ M.filter fun j => !p j := List.mem_filter.2 ⟨hi, by simp [hpi]⟩
        rw [List.eq_nil_of_length_eq_zero hn] at this
        cases this
    rw [List.filter_eq_self.2 hall]
    exact hend f w hk (fun i hi => hp i hi (hall i hi)) (fun i hi j hj => hd i hi j hj (hall i hi) (hall j hj))
  | succ n ih =>
    intro p f w hn hk hp hd
    have hr := List.all_eq_true.1 hready _ (filter_subs p M)
    have hne : M.filter p ≠ M := by
      intro e
      have h1 : ∀ i ∈ M, p i = true := List.filter_eq_self.1 e
      have h2 : (M.filter fun j => !p j) = [] := List.filter_eq_nil_iff.2 (fun i hi => by simp [h1 i hi])
      rw [h2] at hn; simp at hn
    have hr2 : Region.ready md ops (mark L (M.filter p)) = M.filter fun i => !p i := by
      rcases Bool.or_eq_true _ _ ▸ hr with h | h
      · exact absurd (beq_iff_eq.1 h) hne
      · rw [beq_iff_eq.1 h]
        refine List.filter_congr (fun i hi => ?_)
        congr 1
        rw [Bool.eq_iff_iff, List.contains_iff_mem, List.mem_filter]
        simp [hi]
    rw [← Nat.add_assoc]
    refine wpAnyH_ready hr2 (fun e => by rw [e] at hn; simp at hn) (fun i hi => ?_)
    obtain ⟨hiM, hpi⟩ := List.mem_filter.1 hi
    have hpi' : p i = false := by simpa using hpi
    obtain ⟨oi, ho, hw, hs⟩ := hstep i hiM
    refine wpOp_step ho (fun K' hK => ?_)
    rw [if_pos (hw f)]
    refine hs f w K' hk (fun v w' hk' hpost hb1 hb2 => hK _ _ ⟨hS _ (hk.trans hk'), ?_⟩)
    rw [mark_set L M p i hiM]
    have hsz := hk.size
    have hsz' := hk'.size
    refine ih (fun j => p j || j == i) (upd f i v) w' ?_ (hk.trans hk') ?_ ?_
    · have e1 : (M.filter fun j => !(p j || j == i)) = (M.filter fun j => !p j).filter fun j => !(j == i) := by
        rw [List.filter_filter]
        refine List.filter_congr (fun j _ => ?_)
        cases p j <;> cases (j == i) <;> rfl
      rw [e1, drop_one (hnd.filter _) hi]
      omega
    · intro j hj hpj
      by_cases hji : j = i
      · subst hji
        simp only [upd, if_pos]
        exact ⟨hpost, by omega, hb2⟩
      · have : p j = true := by simpa [hji] using hpj
        obtain ⟨h1, h2, h3⟩ := hp j hj this
        simp only [upd, if_neg hji]
        exact ⟨hmono j hj _ _ _ hk' h1, h2, by omega⟩
    · intro j hj l hl hpj hpl hjl
      by_cases hji : j = i
      · subst hji
        have hlj : l ≠ j := fun e => hjl e.symm
        have : p l = true := by simpa [hlj] using hpl
        obtain ⟨h1, h2, h3⟩ := hp l hl this
        simp only [upd, if_pos, if_neg hlj]
        omega
      · have hp1 : p j = true := by simpa [hji] using hpj
        by_cases hli : l = i
        · subst hli
          obtain ⟨h1, h2, h3⟩ := hp j hj hp1
          simp only [upd, if_pos, if_neg hji]
          omega
        · have hp2 : p l = true := by simpa [hli] using hpl
          simp only [upd, if_neg hji, if_neg hli]
          exact hd j hj l hl hp1 hp2 hjl
end
/-- the slots' values, one by one -/
def putAll (slots : Nat → Nat) (f : Nat → Value) : List Nat → Act → Act
  | [], a => a
  | i :: M, a => putAll slots f M (a.put (some (slots i)) (f i))
theorem put_put (a : Act) (s : Nat) (u v : Value) : (a.put (some s) u).put (some s) v = a.put (some s) v := by
  simp [Act.put]
theorem put_comm (a : Act) {s t : Nat} (h : s ≠ t) (u v : Value) : (a.put (some s) u).put (some t) v = (a.put (some t) v).put (some s) u := by
  simp only [Act.put, Act.mk.injEq, and_true]
  exact Array.setIfInBounds_comm _ _ h
theorem put_self (a : Act) {s : Nat} (h : s < a.tmps.size) : a.put (some s) (a.tmps.getD s undef) = a := by
  obtain ⟨t, d⟩ := a
  simp only [Act.put, Act.mk.injEq, and_true]
  apply Array.ext
  · simp
  · intro i h1 h2
    rw [Array.getElem_setIfInBounds (by simpa using h2)]
    split
    · rename_i e; subst e; simp [Array.getD, h2]
    · rfl
theorem putAll_put (slots : Nat → Nat) (f : Nat → Value) : ∀ (M : List Nat) (a : Act) (s : Nat) (v : Value), (∀ i ∈ M, slots i ≠ s) → putAll slots f M (a.put (some s) v) = (putAll slots f M a).put (some s) v
  | [], _, _, _, _ => rfl
  | i :: M, a, s, v, h => by
    rw [putAll, putAll, put_comm a (Ne.symm (h i (by simp))), putAll_put slots f M _ s v (fun j hj => h j (by simp [hj]))]
theorem putAll_congr (slots : Nat → Nat) {f g : Nat → Value} : ∀ (M : List Nat) (a : Act), (∀ i ∈ M, f i = g i) → putAll slots f M a = putAll slots g M a
  | [], _, _ => rfl
  | i :: M, a, h => by rw [putAll, putAll, h i (by simp), putAll_congr slots M _ (fun j hj => h j (by simp [hj]))]
theorem putAll_upd (slots : Nat → Nat) (f : Nat → Value) (i : Nat) (v : Value) : ∀ (M : List Nat) (a : Act), M.Nodup → (M.map slots).Nodup → i ∈ M → (putAll slots f M a).put (some (slots i)) v = putAll slots (upd f i v) M a
  | [], _, _, _, h => by cases h
  | j :: M, a, hn, hs, h => by
    rw [List.nodup_cons] at hn
    rw [List.map_cons, List.nodup_cons] at hs
    rw [putAll, putAll]
    rcases List.mem_cons.1 h with rfl | h'
    · rw [← putAll_put slots f M _ _ v (fun k hk e => hs.1 (List.mem_map.2 ⟨k, hk, e⟩)), put_put, show upd f i v i = v by simp [upd]]
      exact putAll_congr slots M _ (fun k hk => by
        have : k ≠ i := fun e => hn.1 (e ▸ hk)
        simp [upd, this])
    · rw [putAll_upd slots f i v M _ hn.2 hs.2 h', show upd f i v j = f j by
        have : j ≠ i := fun e => hn.1 (e ▸ h')
        simp [upd, this]]
theorem putAll_self (slots : Nat → Nat) (a : Act) : ∀ (M : List Nat), (∀ i ∈ M, slots i < a.tmps.size) → putAll slots (fun i => a.tmps.getD (slots i) undef) M a = a
  | [], _ => rfl
  | i :: M, h => by rw [putAll, put_self a (h i (by simp)), putAll_self slots a M (fun j hj => h j (by simp [hj]))]
theorem put_get (a : Act) {s t : Nat} (h : s ≠ t) (v : Value) : (a.put (some s) v).tmps.getD t undef = a.tmps.getD t undef := by
  simp only [Act.put, Array.getD_eq_getD_getElem?, Array.getElem?_setIfInBounds, if_neg h]
theorem putAll_get (slots : Nat → Nat) (f : Nat → Value) (t : Nat) : ∀ (M : List Nat) (a : Act), (∀ i ∈ M, slots i ≠ t) → (putAll slots f M a).tmps.getD t undef = a.tmps.getD t undef
  | [], _, _ => rfl
  | i :: M, a, h => by rw [putAll, putAll_get slots f t M _ (fun j hj => h j (by simp [hj])), put_get a (h i (by simp))]
section
variable {P : Program} {md : Region.Mode} {ops : Array Oper} {Q : Exit → Act → World → Prop} {S : World → Prop}
theorem step_of {M : List Nat} {slots : Nat → Nat} {Post : Nat → Value → World → Prop} {bl : Value → Nat} {a0 : Act} {w0 : World} {i : Nat} {oi : Oper} (h1 : ops[i]? = some oi) (h2 : oi.dst = some (slots i)) (h3 : oi.guard = none)
    (h4 : ∀ f w (K : Act → World → Prop), (∀ v w', Keeps (fun _ => False) w w' → Post i v w' → w.heap.size ≤ bl v → bl v < w'.heap.size → K ((putAll slots f M a0).put oi.dst v) w') → Oper.wp P oi (putAll slots f M a0) w K Q) :
    ∃ oi, ops[i]? = some oi ∧ oi.dst = some (slots i) ∧ (∀ f, Region.wanted oi (yielded ops (putAll slots f M a0).tmps) = true) ∧ ∀ f w (K : Act → World → Prop), Keeps (fun _ => False) w0 w → (∀ v w', Keeps (fun _ => False) w w' → Post i v w' → w.heap.size ≤ bl v → bl v < w'.heap.size → K ((putAll slots f M a0).put oi.dst v) w') → Oper.wp P oi (putAll slots f M a0) w K Q :=
  ⟨oi, h1, h2, fun f => by simp [Region.wanted, h3], fun f w K _ h => h4 f w K h⟩
/-- operations that only make memory of their own, in whatever order -/
theorem allocs (M : List Nat) (slots : Nat → Nat) (Post : Nat → Value → World → Prop) (bl : Value → Nat) {L : Array Bool} {a0 : Act} {w0 : World} (fuel : Nat)
    (hnd : M.Nodup) (hsl : (M.map slots).Nodup) (hin : ∀ i ∈ M, slots i < a0.tmps.size)
    (hS : ∀ w, Keeps (fun _ => False) w0 w → S w)
    (hready : ((subs M).all fun D => D == M || Region.ready md ops (mark L D) == M.filter fun i => !D.contains i) = true)
    (hstep : ∀ i ∈ M, ∃ oi, ops[i]? = some oi ∧ oi.dst = some (slots i) ∧ (∀ f, Region.wanted oi (yielded ops (putAll slots f M a0).tmps) = true) ∧ ∀ f w (K : Act → World → Prop), Keeps (fun _ => False) w0 w → (∀ v w', Keeps (fun _ => False) w w' → Post i v w' → w.heap.size ≤ bl v → bl v < w'.heap.size → K ((putAll slots f M a0).put oi.dst v) w') → Oper.wp P oi (putAll slots f M a0) w K Q)
    (hmono : ∀ i ∈ M, ∀ v w w', Keeps (fun _ => False) w w' → Post i v w → Post i v w')
    (hend : ∀ f w, Keeps (fun _ => False) w0 w → (∀ i ∈ M, Post i (f i) w ∧ w0.heap.size ≤ bl (f i) ∧ bl (f i) < w.heap.size) → (∀ i ∈ M, ∀ j ∈ M, i ≠ j → bl (f i) ≠ bl (f j)) → wpAnyH P md ops Q S fuel (mark L M) (putAll slots f M a0) w) :
    wpAnyH P md ops Q S (fuel + M.length) L a0 w0 := by
  have h := allocs_from (P := P) (md := md) (ops := ops) (Q := Q) (S := S) M hnd (fun f => putAll slots f M a0) w0 Post bl L hS hready (fun i hi => by
    obtain ⟨oi, h1, h2, h3, h4⟩ := hstep i hi
    refine ⟨oi, h1, h3, fun f w K hk hK => h4 f w K hk (fun v w' k1 k2 k3 k4 => ?_)⟩
    rw [h2, putAll_upd slots f i v M a0 hnd hsl hi]
    exact hK v w' k1 k2 k3 k4) hmono fuel hend M.length (fun _ => false) (fun i => a0.tmps.getD (slots i) undef) w0 (by simp) (Keeps.refl _ _) (fun i _ h => by cases h) (fun i _ j _ h => by cases h)
  rw [show M.filter (fun _ => false) = [] from List.filter_eq_nil_iff.2 (fun _ _ => by simp), mark_nil] at h
  have e := putAll_self slots a0 M hin
  simp only [e] at h
  exact h
end
end Dr
end Go.Proofs.YtdaindihobfokaaGreatDoor
