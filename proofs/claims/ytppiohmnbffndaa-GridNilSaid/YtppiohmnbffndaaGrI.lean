/-
  GrI: told at one cell.
-/
import Derived.Test.YtppiohmnbffndaaGrH
import Derived.Maps.RangeRun
namespace Go.Proofs.Ytppiohmnbffndaa
open Go.RowKit Go.Shelf
set_option linter.unusedVariables false
set_option linter.unusedSimpArgs false
attribute [local go_sem] Oper.semAt_some
namespace Gr
open Mem
/-- the values that At gives -/
def Vals (base : Nat) (w : World) (VB : Nat) (V : List Nat) : Prop := base ≤ VB ∧ ∃ a cp, Blk w VB 53 [.slice a V.length cp] ∧ w.ownsRow base 35 1 (.slice a V.length cp) V.length (u32v V)
theorem own_mono {w : World} {base base' : Nat} {e : TypeId} {size : Nat} {v : Value} {n : Nat} {xs : List Value} (h : w.ownsRow base e size v n xs) (hb : base' ≤ base) : w.ownsRow base' e size v n xs := by
  refine ⟨h.1, ?_⟩
  rcases h.2 with h2 | ⟨g, cap, cur, h1, h2, h3⟩
  · exact .inl h2
  · exact .inr ⟨g, cap, cur, h1, Nat.le_trans hb h2, h3⟩
set_option maxHeartbeats 4000000 in
set_option maxRecDepth 100000 in
theorem told_at (w : World) (G r1 r2 r3 g cap SB PB QB : Nat) (c : Int) (vv : Value) (V : List Nat) (hV : V.length ≤ 1) (hG : Blk w G 65 [.int .i64 10, .map (some r1), .map (some r2), .map (some r3)]) (hM3 : Mp w r3 #[] 0) (hM0 : Mp w r2 #[⟨.agg #[.int .i32 0, .int .i32 0], .slice (some ⟨g, 0, none⟩) 1 cap, 0⟩] 1) (hO0 : w.ownsRow 0 35 1 (.slice (some ⟨g, 0, none⟩) 1 cap) 1 [.int .u32 4])
    (hlk : ∀ W : World, Mp W r2 #[⟨.agg #[.int .i32 0, .int .i32 0], .slice (some ⟨g, 0, none⟩) 1 cap, 0⟩] 1 → (Instr.lookup 62 (.map (some r2)) (.agg #[.int .i32 c, .int .i32 0]) false).run Try.prog W = .ok vv W)
    (hvv : (vv = .slice (some ⟨g, 0, none⟩) 1 cap ∧ V = [4]) ∨ (vv = .slice none 0 0 ∧ V = []))
    (hgv : ∀ W1, Keeps (fun _ => False) w W1 → Gives Try.prog 8 53 #[.pointer (some ⟨SB, 0, none⟩), .pointer (some ⟨PB, 0, none⟩), .pointer (some ⟨QB, 0, none⟩)] (fun c : Int × Int => #[.agg #[.int .i32 c.1, .int .i32 c.2]]) [(c, 0)] W1 (fun _ => True)) :
    Calls Try.prog 31 #[.pointer (some ⟨G, 0, none⟩), .func (.func 53) #[] #[.pointer (some ⟨SB, 0, none⟩), .pointer (some ⟨PB, 0, none⟩), .pointer (some ⟨QB, 0, none⟩)]] w fun e w' => ∃ VB, e = .returned (.func (.func 51) #[] #[.pointer (some ⟨VB, 0, none⟩)]) ∧ Keeps (fun _ => False) w w' ∧ Vals w.heap.size w' VB V := by
  have hm2 : Mp ((w.alloc (.cells #[.pointer (some ⟨G, 0, none⟩)] 27)).alloc (.cells #[.slice none 0 0] 53)) r3 #[] 0 := (hM3.alloc _).alloc _
  have hrg := run_range_map (P := Try.prog) ((w.alloc (.cells #[.pointer (some ⟨G, 0, none⟩)] 27)).alloc (.cells #[.slice none 0 0] 53)) 63 _ _ r3 #[] 0 Try.underlying63 hm2
  have hnx : ∀ ty, (Instr.next (.pointer (some ⟨w.heap.size + 1 + 1, 0, none⟩)) false ty).run Try.prog (((w.alloc (.cells #[.pointer (some ⟨G, 0, none⟩)] 27)).alloc (.cells #[.slice none 0 0] 53)).alloc (.mapIter (some r3) 0 #[] 0)) = .ok (.tuple #[.bool false]) (((w.alloc (.cells #[.pointer (some ⟨G, 0, none⟩)] 27)).alloc (.cells #[.slice none 0 0] 53)).alloc (.mapIter (some r3) 0 #[] 0)) := fun ty => by
    have hr : ((((w.alloc (.cells #[.pointer (some ⟨G, 0, none⟩)] 27)).alloc (.cells #[.slice none 0 0] 53)).alloc (.mapIter (some r3) 0 #[] 0))).heap[w.heap.size + 1 + 1]? = some (.mapIter (some r3) 0 #[] 0) := by have := heap_alloc_new ((w.alloc (.cells #[.pointer (some ⟨G, 0, none⟩)] 27)).alloc (.cells #[.slice none 0 0] 53)) (.mapIter (some r3) 0 #[] 0); simpa only [World.size_alloc] using this
    rcases run_next_at (P := Try.prog) (((w.alloc (.cells #[.pointer (some ⟨G, 0, none⟩)] 27)).alloc (.cells #[.slice none 0 0] 53)).alloc (.mapIter (some r3) 0 #[] 0)) ty (w.heap.size + 1 + 1) r3 0 0 #[] #[] 0 hr (hm2.alloc _) (by simp) (Nat.le_refl _) with h | ⟨e, he, _⟩
    · exact h.2
    · simp [leftOf] at he
  simp only [World.size_alloc] at hrg
  have cG : ∀ i : Nat, (((w.alloc (.cells #[.pointer (some ⟨G, 0, none⟩)] 27)).alloc (.cells #[.slice none 0 0] 53))).cell? ⟨G, i, none⟩ = ([.int .i64 10, .map (some r1), .map (some r2), .map (some r3)] : List Value)[i]? := ((hG.alloc _).alloc _).cell
  have bB := (Blk.new (w.alloc (.cells #[.pointer (some ⟨G, 0, none⟩)] 27)) 53 [.slice none 0 0]).alloc (.mapIter (some r3) 0 #[] 0)
  simp only [World.size_alloc] at bB
  have HG := Lib.hid (hG.alloc (.cells #[.pointer (some ⟨G, 0, none⟩)] 27))
  have H27 := Lib.hid (Blk.new w 27 [.pointer (some ⟨G, 0, none⟩)])
  have HM := Lib.hid (hM0.alloc (.cells #[.pointer (some ⟨G, 0, none⟩)] 27))
  have HO := Lib.hid (hO0.alloc (.cells #[.pointer (some ⟨G, 0, none⟩)] 27))
  have HB := Lib.hid bB
  have HL := Lib.hid hlk
  have HV := Lib.hid hvv
  have HGV := Lib.hid hgv
  clear hlk hvv hgv hG hM0 hO0 hM3 hm2 bB
  refine (callsIn_wide (n := 9)).1 ?_
  refine callsIn_of_wp_marks Try.func31 rfl trivial ?_ rfl
  simp only [Try.ntmps31, List.size_toArray, List.length_cons, List.length_nil, Nat.reduceAdd, Nat.reduceSub, Array.replicate_succ, Array.replicate_zero, List.push_toArray, List.append_toArray, List.nil_append, List.cons_append]
  gi_wp2
  refine wpIn_loop_rounds 1 ?_
  rw [roundsIn_succ]
  gi_wp2
  have hwb : ((w.alloc (.cells #[.pointer (some ⟨G, 0, none⟩)] 27))).heap.size = w.heap.size + 1 := by simp
  have h3z : ((((w.alloc (.cells #[.pointer (some ⟨G, 0, none⟩)] 27)).alloc (.cells #[.slice none 0 0] 53)).alloc (.mapIter (some r3) 0 #[] 0))).heap.size = w.heap.size + 1 + 1 + 1 := by simp
  refine wpIn_range (gf := 53) (lb := #[.pointer (some ⟨SB, 0, none⟩), .pointer (some ⟨PB, 0, none⟩), .pointer (some ⟨QB, 0, none⟩)]) (encs := fun c : Int × Int => #[.agg #[.int .i32 c.1, .int .i32 c.2]]) (xs := [(c, 0)]) (A := fun _ => True) rfl (enters_of Try.func53 (by kernel_rfl) rfl)
    (fun W1 hk => HGV.out W1 (Keeps.trans (by (repeat (first | exact Keeps.refl _ _ | refine Keeps.alloc ?_ _ | refine Keeps.drew ?_))) hk)) (fun _ => rfl)
    (ToldI (w.alloc (.cells #[.pointer (some ⟨G, 0, none⟩)] 27)) (w.heap.size + 1) V) (fun _ _ _ _ => False) (toldi_stab _ _ _ _ (by omega)) (fun _ _ _ _ _ _ h => h.elim)
    (fun k => k = w.heap.size + 1) (fun k hk => by rw [hk]; omega) ⟨((Below.refl _ _).alloc (Nat.le_refl _) _).alloc (by simp) _, .inl ⟨rfl, HB.out, fun _ => Iff.rfl⟩⟩ (fun _ _ => trivial)
    (ToldM (w.alloc (.cells #[.pointer (some ⟨G, 0, none⟩)] 27)) w.heap.size (w.heap.size + 1)) (toldm_stab _ _ _ _ (by omega)) ?assign ?body ?done ?stop
  case assign =>
    intro l pre x rest S W hxs hI hin hlt
    obtain ⟨rfl, rfl, rfl⟩ : pre = [] ∧ x = (c, 0) ∧ rest = [] := by
      rcases pre with _ | ⟨p, pre⟩
      · simp at hxs; exact ⟨rfl, hxs.1.symm, hxs.2⟩
      · simp at hxs
    obtain ⟨h1, (⟨_, h2, h3⟩ | ⟨h2, _⟩)⟩ := hI
    · have HX := Lib.hid (And.intro h1 (And.intro h2 (And.intro h3 hin)))
      have hlt2 := h2.lt
      have H2 := Lib.hid hlt2
      clear h1 h2 h3 hin hrg hnx cG
      gi_wp2
      obtain ⟨h1, h2, h3, hin⟩ := HX.out
      refine ⟨fun k => k = w.heap.size + 1 ∨ k = W.heap.size, ⟨(Keeps.refl S W).alloc _, fun k hk => ?_⟩, fun k hk => ?_, W.heap.size, ⟨rfl, rfl, by simp⟩, Blk.new W 73 [.int .i32 c, .int .i32 0], h1.alloc h1.size _, fun _ => h2.alloc _, fun _ => Iff.rfl⟩
      · rcases hk with h | h
        · exact .inl ((h3 k).2 h)
        · exact .inr (by omega)
      · simp
        rcases hk with h | h <;> omega
    · exact absurd rfl h2
  case body =>
    intro l pre x rest a1 S W hxs hM hin hlt
    obtain ⟨rfl, rfl, rfl⟩ : pre = [] ∧ x = (c, 0) ∧ rest = [] := by
      rcases pre with _ | ⟨p, pre⟩
      · simp at hxs; exact ⟨rfl, hxs.1.symm, hxs.2⟩
      · simp at hxs
    exact told_body l (w.alloc (.cells #[.pointer (some ⟨G, 0, none⟩)] 27)) G r1 r2 r3 g cap w.heap.size (w.heap.size + 1) c vv V HG.out H27.out HM.out HO.out (by omega) HL.out HV.out S W a1 hM hin
  case done =>
    rintro D S' W' hD hnD hf hin ⟨h1, (⟨h2, _⟩ | ⟨_, a, cp, h3, h4, h5⟩)⟩ hDD
    · cases h2
    · have cB := h3.cell 0
      simp only [List.getElem?_cons_zero] at cB
      obtain ⟨n, hn⟩ : ∃ n, n = V.length := ⟨_, rfl⟩
      rw [← hn] at cB
      have hn1 : n ≤ 1 := by omega
      have HX := Lib.hid (And.intro h1 (And.intro h3 (And.intro h4 h5)))
      have HN := Lib.hid hn
      clear h1 h3 h4 h5 hrg hnx cG hn hV hin hf
      have HD := Lib.hid (And.intro hD (And.intro hnD hDD))
      clear hD hnD hDD hwb h3z
      gi_wp2_with (first
        | (refine ⟨trivial, ?_⟩; gi_at_call 34; refine (callsIn_wide.2 (sort1 _ _ _ hn1 _)).mono ?_; rintro e w1 ⟨⟨v, rfl⟩, rfl⟩)
        | (refine ⟨trivial, ?_⟩; gi_at_call 52; refine (callsIn_wide.2 (compact1 _ _ _ hn1 _)).mono ?_; rintro e w1 ⟨rfl, rfl⟩)
        | (refine ⟨trivial, ?_⟩; gi_at_call 30; refine (callsIn_wide.2 (values_any _ _ _ _)).mono ?_; rintro e w1 ⟨rfl, rfl⟩))
      obtain ⟨hD, hnD, hDD⟩ := HD.out
      have hDl : D < W'.heap.size := (Array.getElem?_eq_some_iff.1 hDD).1
      have hDD2 : (W'.alloc (.cells #[.slice a n cp] 53)).heap[D]? = some (.deferred (some [])) := (Below.heap_alloc _ _ _ hDl).trans hDD
      have kp := keeps_putObj (W'.alloc (.cells #[.slice a n cp] 53)) D (.deferred none)
      have HP := Lib.hid kp
      clear kp
      refine ⟨by simp, .inl ⟨_, _, rfl, run_takeDeferred hDD2, ?_⟩⟩
      obtain ⟨h1, h3, h4, h5⟩ := HX.out
      have hz := h1.size
      simp only [World.size_alloc] at hz hD
      have hb := Blk.new W' 53 [.slice a n cp]
      rw [HN.out] at hb
      refine ⟨_, results_tmp rfl _ _ _, W'.heap.size, rfl, ?_, by omega, a, cp, ?_, ?_⟩
      · have k1 : Keeps (fun _ => False) w W' := (Keeps.refl _ w).alloc _ |>.trans (Keeps.of_below0 h1)
        exact (k1.alloc _).then HP.out (fun i hi e => by omega)
      · have := hb.keeps (HN.out ▸ HP.out) (fun e => by omega)
        simpa [HN.out] using this
      · have h6 : W'.ownsRow w.heap.size 35 1 (.slice a V.length cp) V.length (u32v V) := own_mono h4 (by simp)
        exact owns_keeps (h6.alloc _) HP.out (fun b hb e => hnD (e ▸ (h5 _).2 (.inr hb)))
  case stop =>
    intro D c0 pre S' W' hD hnD hf hin hpre hx
    exact hx.elim
end Gr
end Go.Proofs.Ytppiohmnbffndaa
