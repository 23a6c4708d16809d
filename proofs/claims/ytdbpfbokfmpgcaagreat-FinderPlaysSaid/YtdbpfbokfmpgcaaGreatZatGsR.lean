/-
GsR: told.
-/
import Derived.Test.YtdbpfbokfmpgcaaGreatZasGsOGsQ
set_option linter.unusedVariables false
set_option linter.unusedSimpArgs false
set_option linter.ambiguousOpen false
set_option maxHeartbeats 16000000
set_option maxRecDepth 100000
attribute [local go_sem] Go.Oper.semAt_some
namespace Go.Proofs.YtdbpfbokfmpgcaaGreat
theorem ZAs {p : Prop} (h : p := by have := HN.out; omega) : p := h
theorem Za {p : Prop} (h : p := by
 have hb := Blk.new w7 45 [.slice (some ⟨g, 0, none⟩) C.length c5]
 refine ⟨_, results_tmp rfl _ _ _, w7.heap.size, C, rfl, ?_, ⟨Z8, some ⟨g, 0, none⟩, c5, ?_, ?_⟩, hC1, fun id => (hC2 id).trans (hmV id)⟩
 ·exact ((hKw.then hC5 (fun i hi e => Z8)).alloc _).then HP.out (fun i hi e => Z8)
 ·exact hb.keeps HP.out (fun e => Z8)
 ·have h6 := own_mono (base' := w.heap.size) hC4 Z8
  have h7 : (w7.alloc (.cells #[.slice (some ⟨g, 0, none⟩) C.length c5] 45)).ownsRow w.heap.size 35 1 (.slice (some ⟨g, 0, none⟩) C.length c5) C.length (vals C) := h6.alloc _
  exact owns_keeps h7 HP.out (fun b hb e => hgD (by simp [Value.ownBlock] at hb; omega))) : p := h
open Go.RowKit Go.Shelf
namespace Gs
open Mem Gr
open So (vals)
theorem kvA_keys {E : List (Nat × Value × Nat)} {A : List Nat} (h : kvs E = kvA A) : E.map (·.1) = A := by
 have : (kvs E).map (·.1) = (kvA A).map (·.1) := by rw [h]
 rw [kvs_keys] at this
 rw [this]; simp [kvA, Function.comp_def]
theorem told_t (w : World) (G r1 r2 r3 : Nat) (s : Int) (L : List (Nat × Bx)) (A : List Nat) (M : List CE) (h : GridM w G r1 r2 r3 s L A M) (lb : Array Value) (xs : List Cl) (O : Nat → Prop) (hOlt : ∀ k, O k → k < w.heap.size) (hOG : ¬ O G) (hOF : ∀ k, FpG r1 r2 r3 M k → ¬ O k)
 (hseq : ∀ W1, Keeps (fun _ => False) w W1 → GivesO Tryz.prog 8 131 lb (fun c : Cl => #[.agg #[.int .i32 c.1, .int .i32 c.2]]) xs W1 (fun _ => True) O) (hN : (A ++ xs.flatMap (idsAt (viewE M))).length ≤ 1000000000) :
 Calls Tryz.prog 123 #[.pointer (some ⟨G, 0, none⟩), .func (.func 131) #[] lb] w fun e w' => ∃ VB V, e = .returned (.func (.func 92) #[] #[.pointer (some ⟨VB, 0, none⟩)]) ∧ Keeps O w w' ∧ Vals w.heap.size w' VB V ∧ V.Pairwise (· < ·) ∧ ∀ id, id ∈ V ↔ id ∈ A ∨ ∃ c ∈ xs, id ∈ idsAt (viewE M) c := by
 obtain ⟨E, clock, hE, hkv⟩ := h.m3
 have hEA := kvA_keys hkv
 have k2 : Keeps (fun _ => False) w ((w.alloc (.cells #[.pointer (some ⟨G, 0, none⟩)] 64)).alloc (.cells #[.slice none 0 0] 45)) := by (repeat (first | exact Keeps.refl _ _ | refine Keeps.alloc ?_ _ | refine Keeps.drew ?_))
 have hE2 := hE.keeps k2 (fun h => h)
 have hrg := run_range_map (P := Tryz.prog) ((w.alloc (.cells #[.pointer (some ⟨G, 0, none⟩)] 64)).alloc (.cells #[.slice none 0 0] 45)) 82 _ _ r3 _ clock Tryz.underlying82 hE2.heap
 simp only [World.size_alloc] at hrg
 have cG : ∀ i : Nat, (((w.alloc (.cells #[.pointer (some ⟨G, 0, none⟩)] 64)).alloc (.cells #[.slice none 0 0] 45))).cell? ⟨G, i, none⟩ = ([.int .i64 s, .map (some r1), .map (some r2), .map (some r3)] : List Value)[i]? := ((h.blk.alloc _).alloc _).cell
 have kB : Keeps (fun _ => False) w (w.alloc (.cells #[.pointer (some ⟨G, 0, none⟩)] 64)) := by (repeat (first | exact Keeps.refl _ _ | refine Keeps.alloc ?_ _ | refine Keeps.drew ?_))
 have HB := Lib.hid (And.intro (h.kd kB) (And.intro (Blk.new w 64 [.pointer (some ⟨G, 0, none⟩)]) kB))
 have HH := Lib.hid (And.intro h (And.intro hE (And.intro hEA (And.intro hOlt (And.intro hOG (And.intro hOF (And.intro hseq hN)))))))
 have hlen : E.length = A.length := by rw [← hEA]; simp
 have hAl : A.length ≤ 1000000000 := by simp at hN; omega
 have HL := Lib.hid (And.intro hlen hAl)
 clear h hkv hE hEA hE2 hOlt hOG hOF hseq hN k2 kB hlen hAl
 refine (callsIn_wide (n := 9)).1 ?_
 refine callsIn_of_wp_marks Tryz.func123 rfl trivial ?_ rfl
 simp only [Tryz.ntmps123, List.size_toArray, List.length_cons, List.length_nil, Nat.reduceAdd, Nat.reduceSub, Array.replicate_succ, Array.replicate_zero, List.push_toArray, List.append_toArray, List.nil_append, List.cons_append]
 gi_wp2
 have hwb : ((w.alloc (.cells #[.pointer (some ⟨G, 0, none⟩)] 64))).heap.size = w.heap.size + 1 := by simp
 obtain ⟨i0, hi0, hz0, hz1, hz2⟩ := info_parts u32Info
 gi_loopw [6] (fun _ wr => ∃ (D : List (Nat × Value × Nat)) (sa : Option Addr) (cp : Nat), IterE wr (w.heap.size + 1 + 1) r3 E clock D ∧ Keeps (fun _ => False) (w.alloc (.cells #[.pointer (some ⟨G, 0, none⟩)] 64)) wr ∧ Blk wr (w.heap.size + 1) 45 [.slice sa D.length cp] ∧ wr.ownsRow ((w.alloc (.cells #[.pointer (some ⟨G, 0, none⟩)] 64))).heap.size 35 1 (.slice sa D.length cp) D.length (vals (D.map (·.1)))) (fun _ wr => leftN E (w.heap.size + 1 + 1) wr)
 case atStart =>
  have bB := (Blk.new (w.alloc (.cells #[.pointer (some ⟨G, 0, none⟩)] 64)) 45 [.slice none 0 0]).alloc (.mapIter (some r3) clock #[] clock)
  simp only [World.size_alloc] at bB
  refine ⟨[], none, 0, ⟨?_, ZA7, ZA7⟩, Z4, bB, World.ownsRow_nil _ _ _ _⟩
  have := heap_alloc_new ((w.alloc (.cells #[.pointer (some ⟨G, 0, none⟩)] 64)).alloc (.cells #[.slice none 0 0] 45)) (.mapIter (some r3) clock #[] clock)
  simp only [World.size_alloc] at this
  exact this
 case round =>
  obtain ⟨D, sa, cp, hIt, hkr, hbB, hown⟩ := hrel
  have hEr := HH.out.2.1.keeps (HB.out.2.2.trans hkr) (fun h => h)
  rcases hIt.next (P := Tryz.prog) hEr with ⟨hnx, hall⟩ | ⟨e, he, w5, hnx, hen, hk5, hIt5, hlt⟩
  ·have HX := Lib.hid (And.intro hIt (And.intro hkr (And.intro hbB (And.intro hown hall))))
   clear hIt hkr hbB hown hall hEr hrg cG
   gi_wp2
   obtain ⟨hIt, hkr, hbB, hown, hall⟩ := HX.out
   obtain ⟨V0, hV0⟩ := ZE (D.map (·.1))
   have hl0 : V0.length = D.length := by rw [hV0]; simp
   rw [← hl0] at hbB hown
   rw [← hV0] at hown
   have hmem : ∀ id, id ∈ V0 ↔ id ∈ A := fun id => by
    rw [hV0, ← HH.out.2.2.1]
    constructor
    ·intro hm; obtain ⟨e, he, rfl⟩ := List.mem_map.1 hm; exact List.mem_map.2 ⟨e, hIt.sub e he, rfl⟩
    ·intro hm; obtain ⟨e, he, rfl⟩ := List.mem_map.1 hm; exact List.mem_map.2 ⟨e, hall e he, rfl⟩
   have hVN : (V0 ++ xs.flatMap (idsAt (viewE M))).length ≤ 1000000000 := by
    have h1 := HH.out.2.2.2.2.2.2.2
    have h2 := hIt.len
    have h3 := HL.out.1
    simp only [List.length_append] at h1 ⊢
    omega
   have hgB := HB.out.1
   have hT0 : TI (w.alloc (.cells #[.pointer (some ⟨G, 0, none⟩)] 64)) O (w.heap.size + 1) (V0 ++ ([] : List Cl).flatMap (idsAt (viewE M))) (fun k => k = w.heap.size + 1 ∨ (Value.slice sa V0.length cp).ownBlock = some k) wr := by
    rw [List.flatMap_nil, List.append_nil]
    exact ⟨hkr.mono (fun _ _ h => h.elim), sa, cp, hbB, hown, fun _ => Iff.rfl⟩
   have HV := Lib.hid (And.intro hmem (And.intro hVN hgB))
   have HK := Lib.hid hkr
   have hzr := hkr.size
   have hblt := hbB.lt
   refine wpIn_rangeO (gf := 131) (lb := lb) (encs := fun c : Cl => #[.agg #[.int .i32 c.1, .int .i32 c.2]]) (xs := xs) (A := fun _ => True) (O := O) rfl (enters_of Tryz.func131 ZAB rfl) (fun k hk => by have := HH.out.2.2.2.1 k hk; omega)
    (fun W1 hk => HH.out.2.2.2.2.2.2.1 W1 ((HB.out.2.2.trans HK.out).trans hk)) (fun _ => rfl)
    (fun pre S W => TI (w.alloc (.cells #[.pointer (some ⟨G, 0, none⟩)] 64)) O (w.heap.size + 1) (V0 ++ pre.flatMap (idsAt (viewE M))) S W) (fun _ _ _ _ => False) (ti_stab Z8 _) (fun _ _ _ _ _ _ h => h.elim)
    (fun k => k = w.heap.size + 1 ∨ (Value.slice sa V0.length cp).ownBlock = some k) (fun k hk => by rcases hk with rfl | hk; exact hblt; exact (hown.lt k hk).2) hT0
    (fun S W1 W2 hI hin hk => hI.keeps hk (fun k hS hO => by
      obtain ⟨_, a', c', _, hr, hs⟩ := hI
      have := HH.out.2.2.2.1 k hO
      rcases (hs k).1 hS with e | e
      ·omega
      ·have := (hr.lt k e).1; omega) (fun k _ h => h)) (fun _ _ => trivial)
    (ToldM (w.alloc (.cells #[.pointer (some ⟨G, 0, none⟩)] 64)) O (viewE M) V0 w.heap.size (w.heap.size + 1)) (toldm_stab Z8 _ _ _ _) ?assign ?body ?done ?stop
   case assign =>
    intro l pre x rest S W hxs hI hin hlt
    have HX2 := Lib.hid (And.intro hI hin)
    clear hI hin hT0 hbB hown hIt hnx hgB
    gi_wp2
    obtain ⟨hI, hin⟩ := HX2.out
    have ka := (Keeps.refl (fun _ => False) W).alloc (.cells #[.int .i32 x.1, .int .i32 x.2] 181)
    have hzW : ((w.alloc (.cells #[.pointer (some ⟨G, 0, none⟩)] 64))).heap.size ≤ W.heap.size := hI.1.size
    refine ⟨fun k => S k ∨ k = W.heap.size, ⟨ka.mono (fun _ _ h => h.elim), fun k hk => ?_⟩, fun k hk => ?_, W.heap.size, S, ⟨rfl, rfl, ZA7⟩, Blk.new W 181 [.int .i32 x.1, .int .i32 x.2], hI.keeps ka (fun _ _ h => h) (fun _ _ h => h.elim), hin.mono ka.size, fun h => by have := hin _ h; omega, hzW, fun _ => Iff.rfl⟩
    ·rcases hk with h | h
     ·exact .inl h
     ·exact .inr Z8
    ·simp only [World.size_alloc]
     rcases hk with h | h
     ·have := hin k h; omega
     ·omega
   case body =>
    intro l pre x rest a1 S W hxs hM hin hlt _
    refine told_round l (w.alloc (.cells #[.pointer (some ⟨G, 0, none⟩)] 64)) O G r1 r2 r3 w.heap.size (w.heap.size + 1) s M V0 HV.out.2.2.blk HB.out.2.1 HV.out.2.2.m2 HH.out.2.2.2.2.1 (fun h => by have := HH.out.2.2.2.1 _ h; omega) (HH.out.2.2.2.2.2.1 _ (.inr (.inl rfl))) (fun k hk => HH.out.2.2.2.2.2.1 k (.inr (.inr (.inr hk)))) Z8 pre x ?_ S W a1 hM hin
    have h1 := HV.out.2.1
    rw [hxs] at h1
    simp only [List.flatMap_append, List.flatMap_cons, List.length_append, List.flatMap_nil, List.length_nil] at h1 ⊢
    omega
   case stop =>
    intro D0 c0 pre S' W' hD hnD hf hin hpre hx
    exact hx.elim
   case done =>
    rintro D0 S' W' hD hnD hf hin ⟨hK5, a5, c5, hb5, ho5, hS5⟩ hDD
    obtain ⟨V, hV⟩ := ZE (V0 ++ xs.flatMap (idsAt (viewE M)))
    rw [← hV] at hb5 ho5 hS5
    have hmV : ∀ id, id ∈ V ↔ id ∈ A ∨ ∃ c ∈ xs, id ∈ idsAt (viewE M) c := fun id => by
     rw [hV, List.mem_append, HV.out.1 id, List.mem_flatMap]
    have hVl : V.length ≤ 1000000000 := by rw [hV]; exact HV.out.2.1
    have cB := hb5.cell 0
    simp only [List.getElem?_cons_zero] at cB
    have hDl : D0 < W'.heap.size := (Array.getElem?_eq_some_iff.1 hDD).1
    have hKw : Keeps O w W' := (HB.out.2.2.mono (fun _ _ h => h.elim)).trans hK5
    have hzW := hK5.size
    have hparts := ho5.2
    have HD := Lib.hid (And.intro hD (And.intro hnD (And.intro hDD (And.intro hDl (And.intro hS5 (And.intro hb5 (And.intro ho5 (And.intro hmV (And.intro hKw (And.intro hVl hzW))))))))))
    clear hD hnD hDD hDl hS5 hb5 ho5 hmV hKw hK5 hT0 hbB hown hIt hnx hgB hf hin hV hmem hVN hkr hall hl0 hV0 hzW hVl
    rcases hparts with ⟨hnil, h0⟩ | ⟨g, cap, cur, hsl, _⟩
    ·obtain ⟨n, hn⟩ := ZE V.length
     rw [← hn] at cB hnil h0
     have hn1 : n ≤ 1 := by omega
     have HN := Lib.hid (And.intro hn h0)
     clear hn h0 hnil
     gi_wp2_with (first
      | (refine ⟨trivial, ?_⟩; gi_at_call 80; refine (callsIn_wide.2 (sort1 _ _ _ hn1 _)).mono ?_; rintro e w1 ⟨⟨v, rfl⟩, rfl⟩)
      | (refine ⟨trivial, ?_⟩; gi_at_call 82; refine (callsIn_wide.2 (compact1 _ _ _ hn1 _)).mono ?_; rintro e w1 ⟨rfl, rfl⟩)
      | (refine ⟨trivial, ?_⟩; gi_at_call 81; refine (callsIn_wide.2 (values_any _ _ _ _)).mono ?_; rintro e w1 ⟨rfl, rfl⟩))
     obtain ⟨hD, hnD, hDD, hDl, hS5, hb5, ho5, hmV, hKw, hVl, hzW⟩ := HD.out
     have hDD2 : (W'.alloc (.cells #[.slice a5 n c5] 45)).heap[D0]? = some (.deferred (some [])) := (Below.heap_alloc _ _ _ hDl).trans hDD
     have kp := keeps_putObj (W'.alloc (.cells #[.slice a5 n c5] 45)) D0 (.deferred none)
     have HP := Lib.hid kp
     clear kp
     refine ⟨ZA7, .inl ⟨_, _, rfl, run_takeDeferred hDD2, ?_⟩⟩
     simp only [World.size_alloc] at hzW hD
     have hb := Blk.new W' 45 [.slice a5 n c5]
     have hVe : V = [] := List.length_eq_zero_iff.1 ZAs
     refine ⟨_, results_tmp rfl _ _ _, W'.heap.size, V, rfl, ?_, ⟨Z8, a5, c5, ?_, ?_⟩, by rw [hVe]; simp, hmV⟩
     ·exact (hKw.alloc _).then HP.out (fun i hi e => Z8)
     ·have := hb.keeps HP.out (fun e => Z8)
      simpa [HN.out.1] using this
     ·have h6 := own_mono (base' := w.heap.size) ho5 ZA7
      have h7 : (W'.alloc (.cells #[.slice a5 n c5] 45)).ownsRow w.heap.size 35 1 (.slice a5 V.length c5) V.length (vals V) := h6.alloc _
      exact owns_keeps h7 HP.out (fun b hb e => hnD (e ▸ (hS5 _).2 (.inr hb)))
    ·simp only [Value.slice.injEq] at hsl
     obtain ⟨rfl, _, rfl⟩ := hsl
     have hso := So.sort_own HD.out.2.2.2.2.2.2.1 HD.out.2.2.2.2.2.2.2.2.2.1
     have HSo := Lib.hid hso
     have hneB : w.heap.size + 1 ≠ g := fun e => by
      have := own_ne HD.out.2.2.2.2.2.2.1 HD.out.2.2.2.2.2.1 ZAH
      simp [Value.ownBlock] at this; omega
     obtain ⟨n, hn⟩ := ZE V.length
     rw [← hn] at cB hso
     have HN := Lib.hid (And.intro hn hneB)
     clear hn hneB hso
     have hso2 : Calls Tryz.prog 80 #[.slice (some ⟨g, 0, none⟩) n c5] W' fun e w' => e = .returned (.tuple #[]) ∧ w'.cell? ⟨w.heap.size + 1, 0, none⟩ = some (.slice (some ⟨g, 0, none⟩) n c5) ∧ Keeps (fun k => k = g) W' w' ∧ Calls Tryz.prog 82 #[.slice (some ⟨g, 0, none⟩) n c5] w' (fun e w2 => ∃ C, e = .returned (.slice (some ⟨g, 0, none⟩) C.length c5) ∧ C.Pairwise (· < ·) ∧ (∀ x, x ∈ C ↔ x ∈ V) ∧ w2.ownsRow (w.heap.size + 1) 35 1 (.slice (some ⟨g, 0, none⟩) C.length c5) C.length (vals C) ∧ Keeps (fun k => k = g) W' w2) := by
      have h1 := HSo.out
      rw [← HN.out.1] at h1
      refine Calls.mono h1 ?_
      rintro e w5 ⟨rfl, D, hDl, hDs, hDm, hDo, hDk⟩
      have hDo' : w5.ownsRow ((w.alloc (.cells #[.pointer (some ⟨G, 0, none⟩)] 64))).heap.size 35 1 (.slice (some ⟨g, 0, none⟩) D.length c5) D.length (vals D) := by rw [hDl]; exact hDo
      refine ⟨rfl, ?_, hDk, ?_⟩
      ·have := (HD.out.2.2.2.2.2.1.keeps hDk (fun e => HN.out.2 e)).cell 0
       rw [← HN.out.1] at this
       simpa using this
      ·have h2 := So.compact_own hDo' hDs
       rw [hDl] at h2
       refine Calls.mono h2 ?_
       rintro e w6 ⟨C, rfl, hC1, hC2, _, hC4, hC5⟩
       refine ⟨C, rfl, hC1, fun x => (hC2 x).trans (hDm x), ?_, hDk.trans hC5⟩
       simpa using hC4
     clear HSo
     have HSo := Lib.hid hso2
     clear hso2
     gi_wp2_with (first
      | (refine ⟨trivial, ?_⟩; gi_at_call 80; refine (callsIn_wide.2 HSo.out).mono ?_; rintro e w6 ⟨rfl, cB6, hk6, hcp⟩; have HK6 := Lib.hid hk6; have HCp := Lib.hid hcp; clear hk6 hcp cB)
      | (refine ⟨trivial, ?_⟩; gi_at_call 82; refine (callsIn_wide.2 HCp.out).mono ?_; rintro e w7 ⟨C, rfl, hC⟩; have HC := Lib.hid hC; clear hC)
      | (refine ⟨trivial, ?_⟩; gi_at_call 81; refine (callsIn_wide.2 (values_any _ _ _ _)).mono ?_; rintro e w8 ⟨rfl, rfl⟩))
     obtain ⟨hD, hnD, hDD, hDl, hS5, hb5, ho5, hmV, hKw, hVl, hzW⟩ := HD.out
     obtain ⟨hC1, hC2, hC4, hC5⟩ := HC.out
     have hgD : D0 ≠ g := fun e => hnD ((hS5 D0).2 (.inr (by simp [Value.ownBlock, e])))
     have hDD6 := (hC5.block D0 hDl hgD).trans hDD
     have hDl6 : D0 < w7.heap.size := (Array.getElem?_eq_some_iff.1 hDD6).1
     have hDD2 : (w7.alloc (.cells #[.slice (some ⟨g, 0, none⟩) C.length c5] 45)).heap[D0]? = some (.deferred (some [])) := (Below.heap_alloc _ _ _ hDl6).trans hDD6
     have kp := keeps_putObj (w7.alloc (.cells #[.slice (some ⟨g, 0, none⟩) C.length c5] 45)) D0 (.deferred none)
     have HP := Lib.hid kp
     clear kp
     refine ⟨ZA7, .inl ⟨_, _, rfl, run_takeDeferred hDD2, ?_⟩⟩
     have hz7 := hC5.size
     have hgl := (ho5.lt g rfl).1
     simp only [World.size_alloc] at hzW hD hgl
     exact Za
  ·obtain ⟨id, v, st⟩ := e
   simp only at hnx hen
   have hbB5 := hbB.keeps hk5 (fun e => Z8)
   have ho5 := owns_keeps hown hk5 (fun b hb e => hIt.own_ne hown (by rw [hb, e]))
   have HX := Lib.hid (And.intro hIt5 (And.intro (hkr.then hk5 (fun i hi e => Z8)) (And.intro hbB5 (And.intro ho5 (And.intro hlt (And.intro hIt.len HL.out))))))
   have cB := fun o => (hbB5.alloc o).cell 0
   have cB0 := hbB5.cell 0
   simp only [List.getElem?_cons_zero] at cB cB0
   simp only [kid] at hnx hen
   have hDl : (D.length : Int) ≤ 1000000000 := by have := hIt.len; have := HL.out; omega
   clear hIt hkr hbB hown hEr hrg cG hbB5 ho5 hIt5 hk5 hlt he
   gi_wp2_with (gi_at_builtin; refine wpListIn_append_own_at _ rfl (.tmp 17) (.tmp 19) 45 rfl ((w.alloc (.cells #[.pointer (some ⟨G, 0, none⟩)] 64))).heap.size 35 i0 _ 1 4 Tryz.underlying45 hi0 hz0 hz1 hz2 rfl ZAH (.slice sa D.length cp) D.length (vals (D.map (·.1))) rfl (HX.out.2.2.2.1.alloc _) ⟨w5.heap.size, 0, none⟩ 1 1 [.int .u32 (id : Int)] rfl rfl (by exact Mem.news_new w5 _ [_]) ZA6 ZAx Z8 (by have := HX.out.2.1.size; simp only [World.size_alloc] at this ⊢; omega) ?_; intro v' w1 hown hgrow _ hat; obtain ⟨g', cap', rfl⟩ := ownsRow_succ hown; have h51 := (HX.out.2.2.1.alloc (.cells #[.int .u32 (id : Int)] 35)).grown hgrow (own_ne HX.out.2.2.2.1 HX.out.2.2.1 ZAH); have HR := Lib.hid (And.intro hown (And.intro hgrow (And.intro hat h51))); have c51 := h51.cell 0; have f51 := h51.frozen 0; simp only [List.getElem?_cons_zero] at c51; clear cB cB0 h51 hown hgrow hat)
   obtain ⟨hIt5, hkr5, hbB5, ho5, hlt, hlen5, _⟩ := HX.out
   obtain ⟨hown, hgrow, hat, h51⟩ := HR.out
   have hkA : Keeps (fun k => some k = (Value.slice sa D.length cp).ownBlock) w5 w1 := (((Keeps.refl (fun _ => False) w5).alloc (.cells #[.int .u32 (id : Int)] 35)).mono (fun _ _ h => h.elim)).trans (Keeps.of_grown hgrow)
   have hkS : Keeps (fun k => k = w.heap.size + 1 ∨ some k = (Value.slice sa D.length cp).ownBlock) w5 (w1.setCell ⟨w.heap.size + 1, 0, none⟩ (.slice (some ⟨g', 0, none⟩) (D.length + 1) cap')) := (hkA.mono (fun _ _ h => .inr h)).setCell (p := ⟨w.heap.size + 1, 0, none⟩) (fun _ => .inl rfl) _
   have hnri : ¬ (w.heap.size + 1 + 1 = w.heap.size + 1 ∨ some (w.heap.size + 1 + 1) = (Value.slice sa D.length cp).ownBlock) := fun h => h.elim (fun e => Z8) (fun e => hIt5.own_ne ho5 e.symm)
   go_roundw
   case rel =>
    refine ⟨D ++ [(id, v, st)], some ⟨g', 0, none⟩, cap', hIt5.keeps hkS hnri, hkr5.then hkS (fun i hi h => ?_), ?_, ?_⟩
    ·rcases h with h | h
     ·simp only [World.size_alloc] at hi; omega
     ·have := (ho5.lt i h.symm).1; omega
    ·have := h51.set_ 0 (.slice (some ⟨g', 0, none⟩) (D.length + 1) cap')
     simpa using this
    ·have h6 := owns_setCell hown (p := ⟨w.heap.size + 1, 0, none⟩) (own_ne hown h51 ZAH).symm (.slice (some ⟨g', 0, none⟩) (D.length + 1) cap')
     have e1 : vals (D.map (·.1)) ++ [.int .u32 (id : Int)] = vals ((D ++ [(id, v, st)]).map (·.1)) := by simp [vals]
     rw [e1] at h6
     simpa using h6
   case measure =>
    have e1 : leftN E (w.heap.size + 1 + 1) (w1.setCell ⟨w.heap.size + 1, 0, none⟩ (.slice (some ⟨g', 0, none⟩) (D.length + 1) cap')) = leftN E (w.heap.size + 1 + 1) w5 := by
     unfold leftN
     rw [hkS.block _ hIt5.lt hnri]
    first | (rw [e1]; exact hlt) | (show leftN _ _ _ < leftN _ _ _; rw [e1]; exact hlt)
end Gs
end Go.Proofs.YtdbpfbokfmpgcaaGreat
