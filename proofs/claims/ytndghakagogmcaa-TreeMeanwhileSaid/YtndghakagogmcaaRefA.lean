/-
  RefA: the document's answer: a list in two slices; place; Meet and Right; Range.
-/
import Derived.Test.YtndghakagogmcaaTrZ
import Derived.Test.YtndghakagogmcaaTold0
namespace Go.Proofs.Ytndghakagogmcaa
open Go.RowKit Go.Shelf
set_option linter.unusedVariables false
set_option linter.unusedSimpArgs false
attribute [local go_sem] Oper.semAt_some
namespace Tree
open Mem BT
theorem rising_uniq {L : List (Nat × Bx)} (h : Rising L) {x y : Nat × Bx} (hx : x ∈ L) (hy : y ∈ L) (e : x.1 = y.1) : x = y := by
  induction L with
  | nil => simp at hx
  | cons a L ih =>
    have h' := List.pairwise_cons.1 h
    rcases List.mem_cons.1 hx with rfl | hx <;> rcases List.mem_cons.1 hy with rfl | hy
    · rfl
    · have := h'.1 y hy; omega
    · have := h'.1 x (by assumption); omega
    · exact ih h'.2 (by assumption) (by assumption)
def posL : List (Nat × Bx) → Nat → Nat
  | [], _ => 0
  | p :: L, id => if p.1 < id then posL L id + 1 else 0
theorem posL_le (id : Nat) : ∀ L : List (Nat × Bx), posL L id ≤ L.length
  | [] => Nat.le_refl _
  | p :: L => by
    have := posL_le id L
    simp only [posL, List.length_cons]
    split <;> omega
theorem posL_lt {id : Nat} : ∀ {L : List (Nat × Bx)}, Rising L → ∀ {j : Nat} {p : Nat × Bx}, L[j]? = some p → (p.1 < id ↔ j < posL L id)
  | [], _, j, p, h => by simp at h
  | q :: L, hr, 0, p, h => by
    simp at h; subst h
    simp only [posL]
    split <;> omega
  | q :: L, hr, j + 1, p, h => by
    have hr' := List.pairwise_cons.1 hr
    have hp : L[j]? = some p := by simpa using h
    have ih := posL_lt (id := id) hr'.2 hp
    have hq := hr'.1 p (List.mem_of_getElem? hp)
    simp only [posL]
    split <;> omega
theorem hasL_pos {id : Nat} {L : List (Nat × Bx)} (hr : Rising L) : hasL L id = true ↔ ∃ p, L[posL L id]? = some p ∧ p.1 = id := by
  constructor
  · intro h
    obtain ⟨p, hp, he⟩ := hasL_iff.1 h
    obtain ⟨j, hj⟩ := List.getElem?_of_mem hp
    have h1 := posL_lt (id := id) hr hj
    have hjl := (List.getElem?_eq_some_iff.1 hj).1
    have h2 : ¬ j < posL L id := by omega
    have hjp : j = posL L id := by
      apply Decidable.byContradiction
      intro hne
      have hlt : posL L id < L.length := by omega
      have h3 := posL_lt (id := id) hr (List.getElem?_eq_getElem hlt)
      have h4 := (List.pairwise_iff_getElem.1 hr) (posL L id) j hlt hjl (by omega)
      have h5 : L[j].1 = p.1 := by rw [(List.getElem?_eq_some_iff.1 hj).2]
      omega
    exact ⟨p, hjp ▸ hj, he⟩
  · rintro ⟨p, hp, he⟩
    exact hasL_iff.2 ⟨p, List.mem_of_getElem? hp, he⟩
theorem look_pos {id : Nat} {L : List (Nat × Bx)} (hr : Rising L) (h : hasL L id = true) : L[posL L id]? = some (id, lookL L id) := by
  obtain ⟨p, hp, he⟩ := (hasL_pos hr).1 h
  rw [hp, rising_uniq hr (List.mem_of_getElem? hp) (lookL_mem h) he]
theorem putL_pos {id : Nat} {bx : Bx} : ∀ {L : List (Nat × Bx)}, Rising L → hasL L id = false → putL id bx L = L.take (posL L id) ++ (id, bx) :: L.drop (posL L id)
  | [], _, _ => rfl
  | p :: L, hr, h => by
    have hr' := List.pairwise_cons.1 hr
    have h1 := hasL_no.1 h
    have h2 := h1 p (by simp)
    have h3 : hasL L id = false := hasL_no.2 fun q hq => h1 q (by simp [hq])
    simp only [putL, posL]
    by_cases hp : p.1 < id
    · rw [if_neg (by omega), if_pos hp, putL_pos hr'.2 h3]; simp
    · rw [if_pos (by omega), if_neg hp]; simp
theorem delL_pos {id : Nat} : ∀ {L : List (Nat × Bx)}, Rising L → hasL L id = true → delL id L = L.take (posL L id) ++ L.drop (posL L id + 1)
  | [], _, h => by simp [hasL] at h
  | p :: L, hr, h => by
    have hr' := List.pairwise_cons.1 hr
    simp only [posL]
    by_cases hp : p.1 < id
    · have hh : hasL L id = true := by
        rw [hasL_iff] at h ⊢
        obtain ⟨q, hq, hqe⟩ := h
        rcases List.mem_cons.1 hq with rfl | hq
        · omega
        · exact ⟨q, hq, hqe⟩
      have ih := delL_pos hr'.2 hh
      rw [if_pos hp]
      have : delL id (p :: L) = p :: delL id L := by unfold delL; rw [List.filter_cons, if_pos (by simp; omega)]
      rw [this, ih]; simp
    · rw [if_neg hp]
      have hpe : p.1 = id := by
        obtain ⟨q, hq, hqe⟩ := hasL_iff.1 h
        rcases List.mem_cons.1 hq with rfl | hq
        · exact hqe
        · have := hr'.1 q hq; omega
      have hno : delL id L = L := delL_none id fun q hq => by have := hr'.1 q hq; omega
      have : delL id (p :: L) = L := by unfold delL at hno ⊢; rw [List.filter_cons, if_neg (by simp [hpe]), hno]
      rw [this]; simp
def boxCs (b : Bx) : List Value := [.int .i32 b.x0, .int .i32 b.y0, .int .i32 b.x1, .int .i32 b.y1]
def idCells (L : List (Nat × Bx)) : List Value := u32s (L.map (·.1))
def boxCells (L : List (Nat × Bx)) : List Value := L.flatMap fun p => boxCs p.2
/-- the two slices of the document's answer -/
def Ref2 (w : World) (R : Nat) (ai : Option Addr) (ci : Nat) (ab : Option Addr) (cb : Nat) (L : List (Nat × Bx)) : Prop :=
  Blk w R 54 [.slice ai L.length ci, .slice ab L.length cb] ∧ w.ownsRow 0 32 1 (.slice ai L.length ci) L.length (idCells L) ∧ w.ownsRow 0 47 4 (.slice ab L.length cb) L.length (boxCells L)
def RefS (w : World) (R : Nat) (S : Nat → Prop) (L : List (Nat × Bx)) : Prop :=
  ∃ ai ci ab cb, Ref2 w R ai ci ab cb L ∧ Rising L ∧ (∀ p ∈ L, El32 p ∧ p.2.right = true) ∧ L.length ≤ 65536 ∧
    ∀ k, S k ↔ (k = R ∨ (Value.slice ai L.length ci).ownBlock = some k ∨ (Value.slice ab L.length cb).ownBlock = some k)
theorem RefS.inb {w : World} {R : Nat} {S : Nat → Prop} {L : List (Nat × Bx)} (h : RefS w R S L) : Inb S w := by
  obtain ⟨ai, ci, ab, cb, ⟨h1, h2, h3⟩, _, _, _, hS⟩ := h
  intro k hk
  rcases (hS k).1 hk with rfl | hk | hk
  · exact h1.lt
  · exact (h2.lt k hk).2
  · exact (h3.lt k hk).2
theorem RefS.keeps {U : Nat → Prop} {w w' : World} {R : Nat} {S : Nat → Prop} {L : List (Nat × Bx)} (h : RefS w R S L) (hk : Keeps U w w') (hd : ∀ k, S k → ¬ U k) : RefS w' R S L := by
  obtain ⟨ai, ci, ab, cb, ⟨h1, h2, h3⟩, hr, he, hl, hS⟩ := h
  exact ⟨ai, ci, ab, cb, ⟨h1.keeps hk (hd _ ((hS _).2 (.inl rfl))), owns_keeps h2 hk (fun k hk' => hd _ ((hS k).2 (.inr (.inl hk')))), owns_keeps h3 hk (fun k hk' => hd _ ((hS k).2 (.inr (.inr hk'))))⟩, hr, he, hl, hS⟩
theorem RefS.kd {w w' : World} {R : Nat} {S : Nat → Prop} {L : List (Nat × Bx)} (h : RefS w R S L) (hk : Keeps (fun _ => False) w w') : RefS w' R S L := h.keeps hk (fun _ _ h => h)
theorem Ref2.id_at {w : World} {R : Nat} {ai : Option Addr} {ci : Nat} {ab : Option Addr} {cb : Nat} {L : List (Nat × Bx)} (h : Ref2 w R ai ci ab cb L) {i : Nat} {p : Nat × Bx} (hp : L[i]? = some p) : ∃ g, ai = some ⟨g, 0, none⟩ ∧ w.cell? ⟨g, i, none⟩ = some (.int .u32 (p.1 : Int)) := by
  have hi : i < L.length := (List.getElem?_eq_some_iff.1 hp).1
  have hO := h.2.1
  have hu : (idCells L)[i]? = some (.int .u32 (p.1 : Int)) := by simp [idCells, u32s, hp]
  rcases hO.2 with ⟨_, h0⟩ | ⟨g, cap, cur, hv, _, _, _⟩
  · omega
  · simp only [Value.slice.injEq] at hv
    have hc := hO.cells (g := g) (by rw [hv.1]; rfl) i _ hu
    rw [Addr.add_mid, Nat.zero_add] at hc
    exact ⟨g, hv.1, hc⟩
theorem Ref2.box_at {w : World} {R : Nat} {ai : Option Addr} {ci : Nat} {ab : Option Addr} {cb : Nat} {L : List (Nat × Bx)} (h : Ref2 w R ai ci ab cb L) {i : Nat} {p : Nat × Bx} (hp : L[i]? = some p) : ∃ g, ab = some ⟨g, 0, none⟩ ∧ ∀ j u, (boxCs p.2)[j]? = some u → w.cell? ⟨g, i * 4 + j, none⟩ = some u := by
  have hi : i < L.length := (List.getElem?_eq_some_iff.1 hp).1
  have hO := h.2.2
  rcases hO.2 with ⟨_, h0⟩ | ⟨g, cap, cur, hv, _, _, _⟩
  · omega
  · simp only [Value.slice.injEq] at hv
    refine ⟨g, hv.1, fun j u hj => ?_⟩
    have hj4 : j < 4 := by have := (List.getElem?_eq_some_iff.1 hj).1; simpa [boxCs] using this
    have hfc := flat_cell (f := fun p : Nat × Bx => boxCs p.2) (fun x => rfl) L i j hj4 p hp
    have hc := hO.cells (g := g) (by rw [hv.1]; rfl) (i * 4 + j) u (by unfold boxCells; rw [hfc, hj])
    rw [Addr.add_mid, Nat.zero_add] at hc
    exact hc
end Tree
end Go.Proofs.Ytndghakagogmcaa
namespace Go.Proofs.Ytndghakagogmcaa
open Go.RowKit Go.Shelf
set_option linter.unusedVariables false
set_option linter.unusedSimpArgs false
attribute [local go_sem] Oper.semAt_some
namespace Tree
open Mem BT
theorem rright_ex (a : Bx) (w : World) :
    Calls Try.prog 44 #[.agg #[.int .i32 a.x0, .int .i32 a.y0, .int .i32 a.x1, .int .i32 a.y1]] w fun e w' => e = .returned (.bool a.right) ∧ w.alloc (.cells #[.int .i32 a.x0, .int .i32 a.y0, .int .i32 a.x1, .int .i32 a.y1] 47) = w' := by
  obtain ⟨x0, y0, x1, y1⟩ := a
  dsimp only
  by_cases h1 : x0 ≤ x1
  · go_enter Try.func44, Try.ntmps44
    go_wp2
    go_ret
    exact ⟨by simp [Bx.right, h1], rfl⟩
  · go_enter Try.func44, Try.ntmps44
    go_wp2
    go_ret
    exact ⟨by simp [Bx.right]; omega, rfl⟩
set_option maxHeartbeats 4000000 in
set_option maxRecDepth 100000 in
theorem rmeet_any (a b : Bx) (w : World) :
    Calls Try.prog 46 #[.agg #[.int .i32 a.x0, .int .i32 a.y0, .int .i32 a.x1, .int .i32 a.y1], .agg #[.int .i32 b.x0, .int .i32 b.y0, .int .i32 b.x1, .int .i32 b.y1]] w (Gave (.bool (a.meet b)) w) := by
  have HR := Lib.hid rright_ex
  unfold Bx.meet
  generalize hra : a.right = ra at *
  generalize hrb : b.right = rb at *
  have ha := fun w => hra ▸ HR.out a w
  have hb := fun w => hrb ▸ HR.out b w
  have HA := Lib.hid ha
  have HB := Lib.hid hb
  obtain ⟨ax0, ay0, ax1, ay1⟩ := a
  obtain ⟨bx0, by0, bx1, by1⟩ := b
  dsimp only at HA HB ⊢
  clear hra hrb ha hb HR
  by_cases h1 : ax1 < bx0
  · (go_enter Try.func46, Try.ntmps46)
    go_wp2_with (first | (go_at_call 44; (with_reducible refine (HA.out _).mono ?_); rintro e w1 ⟨rfl, rfl⟩) | (go_at_call 44; (with_reducible refine (HB.out _).mono ?_); rintro e w1 ⟨rfl, rfl⟩))
    all_goals
      go_ret
      exact ⟨by simp [*] <;> (try (intros; omega)), by repeat (first | exact Keeps.refl _ _ | apply Keeps.alloc)⟩
  · by_cases h2 : bx1 < ax0
    · (go_enter Try.func46, Try.ntmps46)
      go_wp2_with (first | (go_at_call 44; (with_reducible refine (HA.out _).mono ?_); rintro e w1 ⟨rfl, rfl⟩) | (go_at_call 44; (with_reducible refine (HB.out _).mono ?_); rintro e w1 ⟨rfl, rfl⟩))
      all_goals
        go_ret
        exact ⟨by simp [*] <;> (try (intros; omega)), by repeat (first | exact Keeps.refl _ _ | apply Keeps.alloc)⟩
    · by_cases h3 : ay1 < by0
      · (go_enter Try.func46, Try.ntmps46)
        go_wp2_with (first | (go_at_call 44; (with_reducible refine (HA.out _).mono ?_); rintro e w1 ⟨rfl, rfl⟩) | (go_at_call 44; (with_reducible refine (HB.out _).mono ?_); rintro e w1 ⟨rfl, rfl⟩))
        all_goals
          go_ret
          exact ⟨by simp [*] <;> (try (intros; omega)), by repeat (first | exact Keeps.refl _ _ | apply Keeps.alloc)⟩
      · by_cases h4 : by1 < ay0
        · (go_enter Try.func46, Try.ntmps46)
          go_wp2_with (first | (go_at_call 44; (with_reducible refine (HA.out _).mono ?_); rintro e w1 ⟨rfl, rfl⟩) | (go_at_call 44; (with_reducible refine (HB.out _).mono ?_); rintro e w1 ⟨rfl, rfl⟩))
          all_goals
            go_ret
            exact ⟨by simp [*] <;> (try (intros; omega)), by repeat (first | exact Keeps.refl _ _ | apply Keeps.alloc)⟩
        · (go_enter Try.func46, Try.ntmps46)
          go_wp2_with (first | (go_at_call 44; (with_reducible refine (HA.out _).mono ?_); rintro e w1 ⟨rfl, rfl⟩) | (go_at_call 44; (with_reducible refine (HB.out _).mono ?_); rintro e w1 ⟨rfl, rfl⟩))
          all_goals
            go_ret
            exact ⟨by simp [*] <;> (try (intros; omega)), by repeat (first | exact Keeps.refl _ _ | apply Keeps.alloc)⟩
set_option maxHeartbeats 4000000 in
set_option maxRecDepth 100000 in
theorem place_t (R : Nat) (S : Nat → Prop) (L : List (Nat × Bx)) (id : Nat) (w : World) (h : RefS w R S L) :
    Calls Try.prog 45 #[.pointer (some ⟨R, 0, none⟩), .int .u32 (id : Int)] w (Gave (.tuple #[.int .i64 (posL L id : Int), .bool (hasL L id)]) w) := by
  obtain ⟨ai, ci, ab, cb, h2, hr, he, hl, hS⟩ := h
  have cR := h2.1.cell
  obtain ⟨n, hn⟩ : ∃ n : Nat, n = L.length := ⟨_, rfl⟩
  rw [← hn] at cR hl
  have hnI : (n : Int) ≤ 65536 := by omega
  have HR := Lib.hid hr
  have H2 := Lib.hid h2
  have HN := Lib.hid hn
  have hpl := posL_le id L
  rw [← hn] at hpl
  clear hr h2 he hS hn hl
  go_enter Try.func45, Try.ntmps45
  go_wp2
  go_loopw [6, 7] (fun p q wr => ∃ lo hi : Nat, p = .int .i64 (lo : Int) ∧ q = .int .i64 (hi : Int) ∧ lo ≤ posL L id ∧ posL L id ≤ hi ∧ hi ≤ n ∧ wr = w) (fun p q _ => (intOf q).toNat - (intOf p).toNat)
  case atStart => exact ⟨0, n, rfl, rfl, Nat.zero_le _, hpl, Nat.le_refl _, rfl⟩
  case round =>
    obtain ⟨lo, hi, rfl, rfl, h1, h2, h3, rfl⟩ := hrel
    by_cases hlt : lo < hi
    · obtain ⟨m, hm⟩ : ∃ m : Nat, m = (lo + hi) / 2 := ⟨_, rfl⟩
      have hml : m < L.length := by have := HN.out; omega
      obtain ⟨p, hp⟩ : ∃ p, L[m]? = some p := ⟨_, List.getElem?_eq_getElem hml⟩
      obtain ⟨g, rfl, hc⟩ := H2.out.id_at hp
      have hpos := posL_lt (id := id) HR.out hp
      have hq1 : ((lo : Int) + (hi : Int)) / 2 = (m : Int) := by omega
      have hq2 : ((lo : Int) + (hi : Int)).tdiv 2 = (m : Int) := by rw [Int.tdiv_eq_ediv_of_nonneg (by omega)]; exact hq1
      have hmI : (m : Int) < n := by have := HN.out; omega
      have hm0 : (0 : Int) ≤ m := by omega
      have hltI : (lo : Int) < hi := by omega
      have hhi : (hi : Int) ≤ 65536 := by omega
      have HM := Lib.hid (And.intro hm hpos)
      have HB := Lib.hid (And.intro h1 (And.intro h2 h3))
      clear hm hpos hp h1 h2 h3 hpl
      by_cases hx : p.1 < id
      · go_wp2
        go_roundw
        case rel => exact ⟨m + 1, hi, by go_num, rfl, by have := HM.out.2.1 hx; omega, HB.out.2.1, HB.out.2.2, trivial⟩
        case measure => simp [intOf]; have := HM.out.1; omega
      · go_wp2
        go_roundw
        case rel => exact ⟨lo, m, rfl, rfl, HB.out.1, by have := mt HM.out.2.2 hx; omega, by have := HM.out.1; have := HB.out.2.2; omega, trivial⟩
        case measure => simp [intOf]; have := HM.out.1; omega
    · have e1 : lo = posL L id := by omega
      have e2 : hi = posL L id := by omega
      subst e1 e2
      obtain ⟨q, hq⟩ : ∃ q : Nat, q = posL L id := ⟨_, rfl⟩
      rw [← hq] at hpl h1 h2 h3 hlt ⊢
      have HQ := Lib.hid hq
      cases hh : hasL L id with
      | true =>
        obtain ⟨p, hp, hpe⟩ := (hasL_pos HR.out).1 hh
        rw [← hq] at hp
        have hql : (q : Int) < n := by have := (List.getElem?_eq_some_iff.1 hp).1; have := HN.out; omega
        obtain ⟨g, rfl, hc⟩ := H2.out.id_at hp
        rw [hpe] at hc
        have hq0 : (0 : Int) ≤ q := by omega
        clear hq hp h1 h2 h3 hpl
        go_wp2
        go_region
        all_goals
          go_wp2
          go_ret2
          exact ⟨by (try rw [hh]); rw [← HQ.out]; rfl, (Keeps.refl _ _).drew⟩
      | false =>
        by_cases hql : (q : Int) < n
        · obtain ⟨p, hp⟩ : ∃ p, L[q]? = some p := ⟨_, List.getElem?_eq_getElem (by have := HN.out; omega)⟩
          have hpe : ¬ p.1 = id := fun e => by
            rw [(hasL_pos HR.out).2 ⟨p, hq ▸ hp, e⟩] at hh; cases hh
          have hpb : (((p.1 : Nat) : Int) == ((id : Nat) : Int)) = false := by simp; omega
          obtain ⟨g, rfl, hc⟩ := H2.out.id_at hp
          have hq0 : (0 : Int) ≤ q := by omega
          clear hq hp h1 h2 h3 hpl
          go_wp2
          go_region
          all_goals
            go_wp2
            go_ret2
            exact ⟨by (try rw [hh]); rw [← HQ.out]; rfl, (Keeps.refl _ _).drew⟩
        · obtain rfl : q = n := by omega
          clear hq h1 h2 h3 hpl
          go_wp2
          go_region
          all_goals
            go_wp2
            go_ret2
            exact ⟨by (try rw [hh]); rw [← HQ.out]; rfl, (Keeps.refl _ _).drew⟩
end Tree
end Go.Proofs.Ytndghakagogmcaa
namespace Go.Proofs.Ytndghakagogmcaa
open Go.RowKit Go.Shelf
set_option linter.unusedVariables false
set_option linter.unusedSimpArgs false
attribute [local go_sem] Oper.semAt_some
namespace Tree
open Mem BT
theorem rangeL_snoc (L : List (Nat × Bx)) (c : Bx) {i : Nat} {p : Nat × Bx} (hp : L[i]? = some p) : rangeL (L.take (i + 1)) c = rangeL (L.take i) c ++ (if p.2.meet c then [p.1] else []) := by
  have hi := (List.getElem?_eq_some_iff.1 hp).1
  have e : L.take (i + 1) = L.take i ++ [p] := by rw [← List.take_append_getElem hi, (List.getElem?_eq_some_iff.1 hp).2]
  unfold rangeL
  rw [e, List.filter_append, List.map_append]
  congr 1
  cases h : p.2.meet c <;> simp [h]
set_option maxHeartbeats 4000000 in
set_option maxRecDepth 100000 in
theorem rrange_t (R : Nat) (S : Nat → Prop) (L : List (Nat × Bx)) (c : Bx) (w : World) (h : RefS w R S L) :
    Calls Try.prog 22 #[.pointer (some ⟨R, 0, none⟩), .agg #[.int .i32 c.x0, .int .i32 c.y0, .int .i32 c.x1, .int .i32 c.y1]] w (Fresh w (rangeL L c)) := by
  obtain ⟨ai, ci, ab, cb, h2, hr, he, hl, hS⟩ := h
  obtain ⟨n, hn⟩ : ∃ n : Nat, n = L.length := ⟨_, rfl⟩
  rw [← hn] at hl
  have hnI : (n : Int) ≤ 65536 := by omega
  have HN := Lib.hid hn
  have H2 := Lib.hid h2
  have hX := Blk.new w 47 [.int .i32 c.x0, .int .i32 c.y0, .int .i32 c.x1, .int .i32 c.y1]
  have hK := (Keeps.refl (fun _ => False) w).alloc (.cells #[.int .i32 c.x0, .int .i32 c.y0, .int .i32 c.x1, .int .i32 c.y1] 47)
  have HX := Lib.hid hX
  have HK := Lib.hid hK
  have HM := Lib.hid (fun (a : Bx) W => rmeet_any a c W)
  obtain ⟨i0, hi0, hz0, hz1, hz2⟩ := info_parts u32Info
  clear h2 hn hr he hS hX hK hl
  go_enter Try.func22, Try.ntmps22
  go_wp2
  go_loopw [5, 6] (fun v q wr => ∃ i : Nat, q = .int .i64 (i : Int) ∧ i ≤ n ∧ (∃ a cp, v = .slice a (rangeL (L.take i) c).length cp ∧ wr.ownsRow w.heap.size 32 1 v (rangeL (L.take i) c).length (u32s (rangeL (L.take i) c))) ∧ Blk wr w.heap.size 47 [.int .i32 c.x0, .int .i32 c.y0, .int .i32 c.x1, .int .i32 c.y1] ∧ Keeps (fun _ => False) w wr) (fun _ q _ => n - (intOf q).toNat)
  case atStart => exact ⟨0, rfl, Nat.zero_le _, ⟨none, 0, rfl, World.ownsRow_nil _ _ _ _⟩, HX.out, HK.out⟩
  case round =>
    obtain ⟨i, rfl, hi, ⟨a, cp, rfl, hO⟩, hX, hK⟩ := hrel
    by_cases hlt : i < n
    · obtain ⟨p, hp⟩ : ∃ p, L[i]? = some p := ⟨_, List.getElem?_eq_getElem (by have := HN.out; omega)⟩
      have hR := (H2.out.1.keeps hK (fun h => h))
      have h2' : Ref2 wr R ai ci ab cb L := ⟨hR, owns_keeps H2.out.2.1 hK (fun _ _ h => h), owns_keeps H2.out.2.2 hK (fun _ _ h => h)⟩
      obtain ⟨gb, rfl, hcb⟩ := h2'.box_at hp
      obtain ⟨gi, rfl, hci⟩ := h2'.id_at hp
      have hsn := rangeL_snoc L c hp
      have hiI : (i : Int) < n := by omega
      have hip : (0 : Int) ≤ i := by omega
      have q0 := hcb 0 _ rfl
      have q1 := hcb 1 _ rfl
      have q2 := hcb 2 _ rfl
      have q3 := hcb 3 _ rfl
      simp only [Nat.add_zero] at q0
      have cX := hX.cell
      have cR := hR.cell
      rw [← HN.out] at cR
      obtain ⟨xs, hxs⟩ : ∃ xs, xs = rangeL (L.take i) c := ⟨_, rfl⟩
      rw [← hxs] at hO hsn ⊢
      have hxl : xs.length ≤ 65536 := by
        have h1 := range_len (L.take i) c
        have h2 : (L.take i).length = i := by rw [List.length_take]; have := HN.out; omega
        rw [hxs]; omega
      have HO := Lib.hid hO
      have HSN := Lib.hid hsn
      have HKR := Lib.hid hK
      have HXR := Lib.hid hX
      have HRR := Lib.hid hR
      have HI := Lib.hid hci
      have HL := Lib.hid hxl
      have hlxI : ((xs.length : Nat) : Int) ≤ 65536 := by omega
      clear hO hsn hK hX hR hci hcb h2' hp hxs hxl
      cases hm : p.2.meet c with
      | false =>
        have HM2 := Lib.hid (fun W => hm ▸ HM.out p.2 W)
        go_wp2
        go_region_held3 (fun W => (∀ j : Nat, W.cell? ⟨R, j, none⟩ = ([.slice (some ⟨gi, 0, none⟩) n ci, .slice (some ⟨gb, 0, none⟩) n cb] : List Value)[j]?) ∧ (∀ j : Nat, W.cell? ⟨w.heap.size, j, none⟩ = ([.int .i32 c.x0, .int .i32 c.y0, .int .i32 c.x1, .int .i32 c.y1] : List Value)[j]?) ∧ W.cell? ⟨gb, i * 4, none⟩ = some (.int .i32 p.2.x0) ∧ W.cell? ⟨gb, i * 4 + 1, none⟩ = some (.int .i32 p.2.y0) ∧ W.cell? ⟨gb, i * 4 + 2, none⟩ = some (.int .i32 p.2.x1) ∧ W.cell? ⟨gb, i * 4 + 3, none⟩ = some (.int .i32 p.2.y1)) (first | with_reducible assumption | exact ⟨cR, cX, q0, q1, q2, q3⟩) (first
          | (go_at_call 46; (with_reducible refine (HM2.out _).mono ?_); rintro e w1 ⟨rfl, hk⟩; have hK1 := HKR.out.drew.trans hk; have HK1 := Lib.hid hK1; have HX1 := Lib.hid (HXR.out.drew.kd hk); have HO1 := Lib.hid (owns_keeps HO.out ((Keeps.refl (fun _ => False) wr).drew.trans hk) (fun _ _ h => h)); have HR1 := Lib.hid (HRR.out.drew.kd hk); have hS1 : (∀ j : Nat, w1.cell? ⟨R, j, none⟩ = ([.slice (some ⟨gi, 0, none⟩) n ci, .slice (some ⟨gb, 0, none⟩) n cb] : List Value)[j]?) ∧ (∀ j : Nat, w1.cell? ⟨w.heap.size, j, none⟩ = ([.int .i32 c.x0, .int .i32 c.y0, .int .i32 c.x1, .int .i32 c.y1] : List Value)[j]?) ∧ w1.cell? ⟨gb, i * 4, none⟩ = some (.int .i32 p.2.x0) ∧ w1.cell? ⟨gb, i * 4 + 1, none⟩ = some (.int .i32 p.2.y0) ∧ w1.cell? ⟨gb, i * 4 + 2, none⟩ = some (.int .i32 p.2.x1) ∧ w1.cell? ⟨gb, i * 4 + 3, none⟩ = some (.int .i32 p.2.y1) := (by rw [HN.out]; exact ⟨HR1.out.cell, HX1.out.cell, hk.cell (p := ⟨gb, i * 4, none⟩) q0 (fun h => h), hk.cell (p := ⟨gb, i * 4 + 1, none⟩) q1 (fun h => h), hk.cell (p := ⟨gb, i * 4 + 2, none⟩) q2 (fun h => h), hk.cell (p := ⟨gb, i * 4 + 3, none⟩) q3 (fun h => h)⟩); clear hk hK1))
        clear cR cX q0 q1 q2 q3
        go_wp2
        go_roundw
        case rel =>
          have e : rangeL (L.take (i + 1)) c = xs := by have := HSN.out; rw [hm] at this; simpa using this
          exact ⟨i + 1, by go_num, by omega, ⟨a, cp, by rw [e], by rw [e]; exact HO1.out⟩, HX1.out, HK1.out⟩
        case measure => simp [intOf]; omega
      | true =>
        have HM2 := Lib.hid (fun W => hm ▸ HM.out p.2 W)
        have e : rangeL (L.take (i + 1)) c = xs ++ [p.1] := by have := HSN.out; rw [hm] at this; simpa using this
        have HE := Lib.hid e
        clear e
        go_wp2
        go_region_held3 (fun W => (∀ j : Nat, W.cell? ⟨R, j, none⟩ = ([.slice (some ⟨gi, 0, none⟩) n ci, .slice (some ⟨gb, 0, none⟩) n cb] : List Value)[j]?) ∧ (∀ j : Nat, W.cell? ⟨w.heap.size, j, none⟩ = ([.int .i32 c.x0, .int .i32 c.y0, .int .i32 c.x1, .int .i32 c.y1] : List Value)[j]?) ∧ W.cell? ⟨gb, i * 4, none⟩ = some (.int .i32 p.2.x0) ∧ W.cell? ⟨gb, i * 4 + 1, none⟩ = some (.int .i32 p.2.y0) ∧ W.cell? ⟨gb, i * 4 + 2, none⟩ = some (.int .i32 p.2.x1) ∧ W.cell? ⟨gb, i * 4 + 3, none⟩ = some (.int .i32 p.2.y1)) (first | with_reducible assumption | exact ⟨cR, cX, q0, q1, q2, q3⟩) (first
          | (go_at_call 46; (with_reducible refine (HM2.out _).mono ?_); rintro e w1 ⟨rfl, hk⟩; have hK1 := HKR.out.drew.trans hk; have HK1 := Lib.hid hK1; have HX1 := Lib.hid (HXR.out.drew.kd hk); have HO1 := Lib.hid (owns_keeps HO.out ((Keeps.refl (fun _ => False) wr).drew.trans hk) (fun _ _ h => h)); have HR1 := Lib.hid (HRR.out.drew.kd hk); have hS1 : (∀ j : Nat, w1.cell? ⟨R, j, none⟩ = ([.slice (some ⟨gi, 0, none⟩) n ci, .slice (some ⟨gb, 0, none⟩) n cb] : List Value)[j]?) ∧ (∀ j : Nat, w1.cell? ⟨w.heap.size, j, none⟩ = ([.int .i32 c.x0, .int .i32 c.y0, .int .i32 c.x1, .int .i32 c.y1] : List Value)[j]?) ∧ w1.cell? ⟨gb, i * 4, none⟩ = some (.int .i32 p.2.x0) ∧ w1.cell? ⟨gb, i * 4 + 1, none⟩ = some (.int .i32 p.2.y0) ∧ w1.cell? ⟨gb, i * 4 + 2, none⟩ = some (.int .i32 p.2.x1) ∧ w1.cell? ⟨gb, i * 4 + 3, none⟩ = some (.int .i32 p.2.y1) := (by rw [HN.out]; exact ⟨HR1.out.cell, HX1.out.cell, hk.cell (p := ⟨gb, i * 4, none⟩) q0 (fun h => h), hk.cell (p := ⟨gb, i * 4 + 1, none⟩) q1 (fun h => h), hk.cell (p := ⟨gb, i * 4 + 2, none⟩) q2 (fun h => h), hk.cell (p := ⟨gb, i * 4 + 3, none⟩) q3 (fun h => h)⟩); have hI1 := hk.cell (p := ⟨gi, i, none⟩) HI.out (fun h => h); have hcR1 := HR1.out.cell; rw [← HN.out] at hcR1; clear hk hK1))
        clear cR cX q0 q1 q2 q3 hS1
        go_wp2_with (at_builtin; refine wpList_append_own_at _ rfl (.tmp 25) (.tmp 33) 51 rfl w.heap.size 32 i0 _ 1 4 Try.underlying51 hi0 hz0 hz1 hz2 rfl (by decide) (.slice a xs.length cp) xs.length (u32s xs) rfl (HO1.out.alloc _) ⟨w1.heap.size, 0, none⟩ 1 1 [.int .u32 (p.1 : Int)] rfl rfl (by exact Mem.news_new w1 _ [_]) (by simp [Value.oneCell']) (by unfold maxLen; have := HL.out; omega) (by have := HL.out; omega) (by have := HK1.out.size; simp; omega) ?_; intro v' w2 hown hgrow _ hat; obtain ⟨g', cap', rfl⟩ := ownsRow_succ hown; have HG := Lib.hid (And.intro hown hgrow); clear hown hgrow hat)
        go_roundw
        case rel =>
          have hl : (rangeL (L.take (i + 1)) c).length = xs.length + 1 := by rw [HE.out]; simp
          have hu : u32s (rangeL (L.take (i + 1)) c) = u32s xs ++ [.int .u32 (p.1 : Int)] := by rw [HE.out]; simp [u32s]
          refine ⟨i + 1, by go_num, by omega, ⟨some ⟨g', 0, none⟩, cap', by rw [hl], ?_⟩, ((HX1.out.alloc _).grown HG.out.2 (own_ne HO1.out HX1.out (by decide))), ((HK1.out.alloc _).grown HG.out.2 (fun k hk e => absurd (HO1.out.lt k e).1 (by omega)))⟩
          rw [hl, hu]; exact HG.out.1
        case measure => simp [intOf]; omega
    · obtain rfl : i = n := by omega
      have hx : L.take i = L := by rw [HN.out]; exact List.take_length
      rw [hx] at hO ⊢
      have HO := Lib.hid hO
      have HKR := Lib.hid hK
      have hR := (H2.out.1.keeps hK (fun h => h)).cell
      rw [← HN.out] at hR
      clear hO hK hX
      go_wp2
      go_ret
      exact ⟨_, rfl, HO.out, HKR.out⟩
end Tree
end Go.Proofs.Ytndghakagogmcaa
