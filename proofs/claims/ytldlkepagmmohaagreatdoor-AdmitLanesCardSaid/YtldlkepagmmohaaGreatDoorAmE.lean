/-
  AmE: an order waits.
-/
import Derived.Test.YtldlkepagmmohaaGreatDoorAmD
namespace Go.Proofs.YtldlkepagmmohaaGreatDoor
open Go.RowKit
set_option linter.unusedVariables false
set_option linter.unusedSimpArgs false
attribute [local go_sem] Oper.semAt_some
namespace Am
open Mem
theorem wfit0 : 0 + (#[.int .u8 1, .int .u32 5, .int .u32 3, .int .u32 0, .int .i32 0, .int .i32 0, .int .u32 0, .int .u8 0, .slice none 0 0, .slice none 0 0, .int .i32 0, .string ⟨#[]⟩] : Array Value).size ≤ ([.int .u8 1, .int .u32 5, .int .u32 3, .int .u32 0, .int .i32 0, .int .i32 0, .int .u32 0, .int .u8 0, .slice none 0 0, .slice none 0 0, .int .i32 0, .string ⟨#[]⟩, .int .u32 0, .bool false] : List Value).length := by simp
theorem wone0 : (#[.int .u8 1, .int .u32 5, .int .u32 3, .int .u32 0, .int .i32 0, .int .i32 0, .int .u32 0, .int .u8 0, .slice none 0 0, .slice none 0 0, .int .i32 0, .string ⟨#[]⟩] : Array Value).all (·.oneCell') = true := by simp [Value.oneCell']
theorem wsame {w : World} {b : Nat} (h : Blk w b 51 (([.int .u8 1, .int .u32 5, .int .u32 3, .int .u32 0, .int .i32 0, .int .i32 0, .int .u32 0, .int .u8 0, .slice none 0 0, .slice none 0 0, .int .i32 0, .string ⟨#[]⟩, .int .u32 0, .bool false] : List Value).take 0 ++ (#[.int .u8 1, .int .u32 5, .int .u32 3, .int .u32 0, .int .i32 0, .int .i32 0, .int .u32 0, .int .u8 0, .slice none 0 0, .slice none 0 0, .int .i32 0, .string ⟨#[]⟩] : Array Value).toList ++ ([.int .u8 1, .int .u32 5, .int .u32 3, .int .u32 0, .int .i32 0, .int .i32 0, .int .u32 0, .int .u8 0, .slice none 0 0, .slice none 0 0, .int .i32 0, .string ⟨#[]⟩, .int .u32 0, .bool false] : List Value).drop (0 + (#[.int .u8 1, .int .u32 5, .int .u32 3, .int .u32 0, .int .i32 0, .int .i32 0, .int .u32 0, .int .u8 0, .slice none 0 0, .slice none 0 0, .int .i32 0, .string ⟨#[]⟩] : Array Value).size))) : Blk w b 51 [.int .u8 1, .int .u32 5, .int .u32 3, .int .u32 0, .int .i32 0, .int .i32 0, .int .u32 0, .int .u8 0, .slice none 0 0, .slice none 0 0, .int .i32 0, .string ⟨#[]⟩, .int .u32 0, .bool false] := h
theorem tfit (B : Nat) : 13 + (#[.int .i64 1, .int .u8 1, .int .u32 5, .int .u32 3, .int .u32 0, .int .i32 0, .int .i32 0, .int .u32 0, .int .u8 0, .slice none 0 0, .slice none 0 0, .int .i32 0, .string ⟨#[]⟩, .int .u32 0, .bool false, .int .i64 (-1), .int .u32 0] : Array Value).size ≤ (ordL B).length := by simp
theorem tinfo : (Tryz.prog.info? 53).map (·.size) = some (#[.int .i64 1, .int .u8 1, .int .u32 5, .int .u32 3, .int .u32 0, .int .i32 0, .int .i32 0, .int .u32 0, .int .u8 0, .slice none 0 0, .slice none 0 0, .int .i32 0, .string ⟨#[]⟩, .int .u32 0, .bool false, .int .i64 (-1), .int .u32 0] : Array Value).size := by kernel_rfl
theorem tone : (#[.int .i64 1, .int .u8 1, .int .u32 5, .int .u32 3, .int .u32 0, .int .i32 0, .int .i32 0, .int .u32 0, .int .u8 0, .slice none 0 0, .slice none 0 0, .int .i32 0, .string ⟨#[]⟩, .int .u32 0, .bool false, .int .i64 (-1), .int .u32 0] : Array Value).all (·.oneCell') = true := by simp [Value.oneCell']
theorem tsame {w : World} {b B : Nat} (h : Blk w b 73 ((ordL B).take 13 ++ (#[.int .i64 1, .int .u8 1, .int .u32 5, .int .u32 3, .int .u32 0, .int .i32 0, .int .i32 0, .int .u32 0, .int .u8 0, .slice none 0 0, .slice none 0 0, .int .i32 0, .string ⟨#[]⟩, .int .u32 0, .bool false, .int .i64 (-1), .int .u32 0] : Array Value).toList ++ (ordL B).drop (13 + (#[.int .i64 1, .int .u8 1, .int .u32 5, .int .u32 3, .int .u32 0, .int .i32 0, .int .i32 0, .int .u32 0, .int .u8 0, .slice none 0 0, .slice none 0 0, .int .i32 0, .string ⟨#[]⟩, .int .u32 0, .bool false, .int .i64 (-1), .int .u32 0] : Array Value).size))) : Blk w b 73 (ordW B) := h
theorem rfit : 0 + (repL 0 0).toArray.size ≤ (repL 0 0).length := by simp
theorem rone : (repL 0 0).toArray.all (·.oneCell') = true := by simp [Value.oneCell']
theorem rsame {w : World} {b : Nat} (h : Blk w b 49 ((repL 0 0).take 0 ++ (repL 0 0).toArray.toList ++ (repL 0 0).drop (0 + (repL 0 0).toArray.size))) : Blk w b 49 (repL 0 0) := h
section
variable {P : Program} {md : Region.Mode} {ops : Array Oper} {Q : Exit → Act → World → Prop} {S : World → Prop}
theorem anyH_two (i j : Nat) {oi oj : Oper} {fuel : Nat} {listed : Array Bool} {a : Act} {w : World} (hr : Region.ready md ops listed = [i, j]) (hoi : ops[i]? = some oi) (hwi : Region.wanted oi (yielded ops a.tmps) = true) (hoj : ops[j]? = some oj) (hwj : Region.wanted oj (yielded ops a.tmps) = true)
    (h : ∀ K' : Act → World → Prop, (∀ a' w', S w' → wpAnyH P md ops Q S fuel (listed.setIfInBounds i true) a' w' → K' a' w') → Oper.wp P oi a w K' Q)
    (h2 : ∀ K' : Act → World → Prop, (∀ a' w', S w' → wpAnyH P md ops Q S fuel (listed.setIfInBounds j true) a' w' → K' a' w') → Oper.wp P oj a w K' Q) : wpAnyH P md ops Q S (fuel + 1) listed a w :=
  wpAnyH_ready hr (by simp) (AllReadyH.cons hoi (fun K hK => by rw [if_pos hwi]; exact h K (fun a w hS hW => hK.out a w hS (fun _ => hW))) (AllReadyH.cons hoj (fun K hK => by rw [if_pos hwj]; exact h2 K (fun a w hS hW => hK.out a w hS (fun _ => hW))) AllReadyH.nil))
end
set_option maxHeartbeats 2000000 in
set_option maxRecDepth 20000 in
theorem waits_t (ob B m1 m2 tb lb : Nat) (ep : Int) (w : World) (h : At0 w ob B m1 m2 tb lb ep) : Calls Tryz.prog 36 #[.pointer (some ⟨ob, 0, none⟩), .int .u32 0] w fun e w' => e = .returned (.agg (repL 0 0).toArray) ∧ Keeps (fun k => k = ob ∨ k = lb) w w' ∧ Blk w' ob 73 (ordW B) := by
  have hk0 : Keeps (fun _ => False) w (w.alloc (.cells (repL 0 0).toArray 49)) := by (repeat (first | exact Keeps.refl _ _ | assumption | refine Keeps.alloc ?_ _ | refine Keeps.drew ?_))
  have h0 := h.keeps hk0
  have hR := Blk.new w 49 (repL 0 0)
  have hS := h0.s3
  have HS := Lib.hid (fun W' (hk : Keeps (fun _ => False) (w.alloc (.cells (repL 0 0).toArray 49)) W') => (h0.keeps hk))
  have HR := Lib.hid (And.intro hR hk0)
  clear h h0 hR hk0
  go_enter Tryz.func36, Tryz.ntmps36
  go_wp2
  go_region_held3 (fun W => (∀ i : Nat, W.cell? ⟨ob, i, none⟩ = (ordL B : List Value)[i]?) ∧ (∀ i : Nat, W.cell? ⟨B, i, none⟩ = (bookL m1 m2 tb lb ep : List Value)[i]?) ∧ (∀ i : Nat, W.cell? ⟨lb, i, none⟩ = ([.slice none 0 0, .slice none 0 0, .slice none 0 0] : List Value)[i]?)) (first | with_reducible assumption | exact (HS.out _ (by (repeat (first | exact Keeps.refl _ _ | with_reducible assumption | refine Keeps.drew ?_ | refine Keeps.alloc ?_ _ | with_reducible refine Keeps.trans ?_ K9.out | with_reducible refine Keeps.trans ?_ K8.out | with_reducible refine Keeps.trans ?_ K7.out | with_reducible refine Keeps.trans ?_ K6.out | with_reducible refine Keeps.trans ?_ K5.out | with_reducible refine Keeps.trans ?_ K4.out | with_reducible refine Keeps.trans ?_ K3.out | with_reducible refine Keeps.trans ?_ K2.out | with_reducible refine Keeps.trans ?_ K1.out)))).s3) (first
    | (go_at_call 4; (with_reducible refine (lane_1 _).mono ?_); rintro e w1 ⟨rfl, hk⟩; have K1 := Lib.hid hk; clear hk))
  have hS2 := (HS.out w1 (by (repeat (first | exact Keeps.refl _ _ | with_reducible assumption | refine Keeps.drew ?_ | refine Keeps.alloc ?_ _ | with_reducible refine Keeps.trans ?_ K9.out | with_reducible refine Keeps.trans ?_ K8.out | with_reducible refine Keeps.trans ?_ K7.out | with_reducible refine Keeps.trans ?_ K6.out | with_reducible refine Keeps.trans ?_ K5.out | with_reducible refine Keeps.trans ?_ K4.out | with_reducible refine Keeps.trans ?_ K3.out | with_reducible refine Keeps.trans ?_ K2.out | with_reducible refine Keeps.trans ?_ K1.out)))).s3
  clear hS
  have hwk : Keeps (fun _ => False) (w.alloc (.cells (repL 0 0).toArray 49)) (w1.alloc (.cells #[.int .u8 1, .int .u32 5, .int .u32 3, .int .u32 0, .int .i32 0, .int .i32 0, .int .u32 0, .int .u8 0, .slice none 0 0, .slice none 0 0, .int .i32 0, .string ⟨#[]⟩, .int .u32 0, .bool false] 51)) := by (repeat (first | exact Keeps.refl _ _ | with_reducible assumption | refine Keeps.drew ?_ | refine Keeps.alloc ?_ _ | with_reducible refine Keeps.trans ?_ K9.out | with_reducible refine Keeps.trans ?_ K8.out | with_reducible refine Keeps.trans ?_ K7.out | with_reducible refine Keeps.trans ?_ K6.out | with_reducible refine Keeps.trans ?_ K5.out | with_reducible refine Keeps.trans ?_ K4.out | with_reducible refine Keeps.trans ?_ K3.out | with_reducible refine Keeps.trans ?_ K2.out | with_reducible refine Keeps.trans ?_ K1.out))
  have hA := HS.out _ hwk
  have hHR := HR.out
  have hneo : ob ≠ lb := Blk.ne_ hA.ord hA.lanes (by decide)
  have hneb : B ≠ lb := Blk.ne_ hA.book hA.lanes (by decide)
  have hbw := Blk.new w1 51 [.int .u8 1, .int .u32 5, .int .u32 3, .int .u32 0, .int .i32 0, .int .i32 0, .int .u32 0, .int .u8 0, .slice none 0 0, .slice none 0 0, .int .i32 0, .string ⟨#[]⟩, .int .u32 0, .bool false]
  have hnew : w1.heap.size ≠ lb := Blk.ne_ hbw hA.lanes (by decide)
  have H4 := Lib.hid (fun W' (hk : Keeps (fun k => k = lb) (w1.alloc (.cells #[.int .u8 1, .int .u32 5, .int .u32 3, .int .u32 0, .int .i32 0, .int .i32 0, .int .u32 0, .int .u8 0, .slice none 0 0, .slice none 0 0, .int .i32 0, .string ⟨#[]⟩, .int .u32 0, .bool false] 51)) W') => (show (∀ i : Nat, W'.cell? ⟨ob, i, none⟩ = (ordL B : List Value)[i]?) ∧ (∀ i : Nat, W'.cell? ⟨B, i, none⟩ = (bookL m1 m2 tb lb ep : List Value)[i]?) ∧ (∀ i : Nat, W'.cell? ⟨w1.heap.size, i, none⟩ = ([.int .u8 1, .int .u32 5, .int .u32 3, .int .u32 0, .int .i32 0, .int .i32 0, .int .u32 0, .int .u8 0, .slice none 0 0, .slice none 0 0, .int .i32 0, .string ⟨#[]⟩, .int .u32 0, .bool false] : List Value)[i]?) from
    ⟨(hA.ord.keeps hk hneo).cell, (hA.book.keeps hk hneb).cell, (hbw.keeps hk hnew).cell⟩))
  have HL4 := Lib.hid hA.lanes
  have hc1 := hA.lanes.cell 1
  have hc2 := (hA.lanes.alloc (.cells #[.int .u8 1, .int .u32 5, .int .u32 3, .int .u32 0, .int .i32 0, .int .i32 0, .int .u32 0, .int .u8 0, .slice none 0 0, .slice none 0 0, .int .i32 0, .string ⟨#[]⟩, .int .u32 0, .bool false] 51)).cell 1
  simp only [List.getElem?_cons_zero, List.getElem?_cons_succ] at hc1 hc2
  have hrb := hHR.1.keeps hwk (fun h => h)
  have hner : w.heap.size ≠ lb := Blk.ne_ hrb hA.lanes (by decide)
  have HG := Lib.hid (fun W' (hk : Keeps (fun k => k = lb) (w1.alloc (.cells #[.int .u8 1, .int .u32 5, .int .u32 3, .int .u32 0, .int .i32 0, .int .i32 0, .int .u32 0, .int .u8 0, .slice none 0 0, .slice none 0 0, .int .i32 0, .string ⟨#[]⟩, .int .u32 0, .bool false] 51)) W') => And.intro (hA.ord.keeps hk hneo) (And.intro (hbw.keeps hk hnew) (hrb.keeps hk hner)))
  have HGN := Lib.hid (show some ob ≠ some w1.heap.size ∧ some w.heap.size ≠ some w1.heap.size ∧ some w.heap.size ≠ some ob from ⟨fun e => by injection e with e; exact Blk.ne_ hA.ord hbw (by decide) e, fun e => by injection e with e; exact Blk.ne_ hrb hbw (by decide) e, fun e => by injection e with e; exact Blk.ne_ hrb hA.ord (by decide) e⟩)
  have HA := Lib.hid hA
  have K0 := Lib.hid (show w.heap.size ≤ w1.heap.size from by have := (HR.out.2.trans (show Keeps (fun _ => False) _ w1 from by (repeat (first | exact Keeps.refl _ _ | with_reducible assumption | refine Keeps.drew ?_ | refine Keeps.alloc ?_ _ | with_reducible refine Keeps.trans ?_ K9.out | with_reducible refine Keeps.trans ?_ K8.out | with_reducible refine Keeps.trans ?_ K7.out | with_reducible refine Keeps.trans ?_ K6.out | with_reducible refine Keeps.trans ?_ K5.out | with_reducible refine Keeps.trans ?_ K4.out | with_reducible refine Keeps.trans ?_ K3.out | with_reducible refine Keeps.trans ?_ K2.out | with_reducible refine Keeps.trans ?_ K1.out)))).size; omega)
  clear hA hneo hneb hbw hnew hrb hner hHR
  have hnw : ∀ j u, (waf ())[j]? = some u → ((w1.alloc (.cells #[.int .u8 1, .int .u32 5, .int .u32 3, .int .u32 0, .int .i32 0, .int .i32 0, .int .u32 0, .int .u8 0, .slice none 0 0, .slice none 0 0, .int .i32 0, .string ⟨#[]⟩, .int .u32 0, .bool false] 51)).alloc (.cells #[.int .u8 1, .int .u32 5, .int .u32 3, .int .u32 0, .int .i32 0, .int .i32 0, .int .u32 0, .int .u8 0, .slice none 0 0, .slice none 0 0, .int .i32 0, .string ⟨#[]⟩, .int .u32 0, .bool false] 51)).cell? ((⟨w1.heap.size + 1, 0, none⟩ : Addr).add j) = some u := by
    have := Mem.news_new (w1.alloc (.cells #[.int .u8 1, .int .u32 5, .int .u32 3, .int .u32 0, .int .i32 0, .int .i32 0, .int .u32 0, .int .u8 0, .slice none 0 0, .slice none 0 0, .int .i32 0, .string ⟨#[]⟩, .int .u32 0, .bool false] 51)) 51 [.int .u8 1, .int .u32 5, .int .u32 3, .int .u32 0, .int .i32 0, .int .i32 0, .int .u32 0, .int .u8 0, .slice none 0 0, .slice none 0 0, .int .i32 0, .string ⟨#[]⟩, .int .u32 0, .bool false]
    simp only [World.size_alloc] at this
    exact this
  have HNW := Lib.hid hnw
  clear hnw
  have hS4 := H4.out _ (Keeps.refl _ _)
  have HWK := Lib.hid hwk
  clear hwk
  go_wp2
  refine wp_region_held_drew (S := fun W => (∀ i : Nat, W.cell? ⟨ob, i, none⟩ = (ordL B : List Value)[i]?) ∧ (∀ i : Nat, W.cell? ⟨B, i, none⟩ = (bookL m1 m2 tb lb ep : List Value)[i]?) ∧ (∀ i : Nat, W.cell? ⟨w1.heap.size, i, none⟩ = ([.int .u8 1, .int .u32 5, .int .u32 3, .int .u32 0, .int .i32 0, .int .i32 0, .int .u32 0, .int .u8 0, .slice none 0 0, .slice none 0 0, .int .i32 0, .string ⟨#[]⟩, .int .u32 0, .bool false] : List Value)[i]?)) (by kernel_rfl) (H4.out _ (by (repeat (first | exact Keeps.refl _ _ | refine Keeps.drew ?_ | refine Keeps.alloc ?_ _ | refine Keeps.setCell (S := fun k => k = lb) (p := ⟨lb, 1, none⟩) ?_ (fun _ => rfl) _ | with_reducible refine Keeps.trans ?_ K5.out)))) (fun hS0 => ?_)
  (refine wpAnyH_take (i := 0) (v := ?_) rfl (by kernel_rfl) (by kernel_rfl) (by kernel_rfl) (fun _ _ _ h => h) (Or.inl ⟨by kernel_rfl, ?_⟩) (by with_reducible exact hS0) ?_; rotate_left; (focus (rintro w ⟨hSw1, hSw2, hSw3⟩; go_simp; (try with_reducible rfl))); simp only [Act.put, List.getElem_toArray, List.getElem_cons_succ, List.getElem_cons_zero, List.setIfInBounds_toArray, List.set_cons_zero, List.set_cons_succ])
  (refine wpAnyH_take (i := 1) (v := ?_) rfl (by kernel_rfl) (by kernel_rfl) (by kernel_rfl) (fun _ _ _ h => h) (Or.inl ⟨by kernel_rfl, ?_⟩) (by with_reducible exact hS0) ?_; rotate_left; (focus (rintro w ⟨hSw1, hSw2, hSw3⟩; go_simp; (try with_reducible rfl))); simp only [Act.put, List.getElem_toArray, List.getElem_cons_succ, List.getElem_cons_zero, List.setIfInBounds_toArray, List.set_cons_zero, List.set_cons_succ])
  (refine wpAnyH_take (i := 2) (v := ?_) rfl (by kernel_rfl) (by kernel_rfl) (by kernel_rfl) (fun _ _ _ h => h) (Or.inl ⟨by kernel_rfl, ?_⟩) (by with_reducible exact hS0) ?_; rotate_left; (focus (rintro w ⟨hSw1, hSw2, hSw3⟩; go_simp; (try with_reducible rfl))); simp only [Act.put, List.getElem_toArray, List.getElem_cons_succ, List.getElem_cons_zero, List.setIfInBounds_toArray, List.set_cons_zero, List.set_cons_succ])
  (refine wpAnyH_take (i := 3) (v := ?_) rfl (by kernel_rfl) (by kernel_rfl) (by kernel_rfl) (fun _ _ _ h => h) (Or.inl ⟨by kernel_rfl, ?_⟩) (by with_reducible exact hS0) ?_; rotate_left; (focus (rintro w ⟨hSw1, hSw2, hSw3⟩; go_simp; (try with_reducible rfl))); simp only [Act.put, List.getElem_toArray, List.getElem_cons_succ, List.getElem_cons_zero, List.setIfInBounds_toArray, List.set_cons_zero, List.set_cons_succ])
  (refine wpAnyH_take (i := 4) (v := ?_) rfl (by kernel_rfl) (by kernel_rfl) (by kernel_rfl) (fun _ _ _ h => h) (Or.inl ⟨by kernel_rfl, ?_⟩) (by with_reducible exact hS0) ?_; rotate_left; (focus (rintro w ⟨hSw1, hSw2, hSw3⟩; go_simp; (try with_reducible rfl))); simp only [Act.put, List.getElem_toArray, List.getElem_cons_succ, List.getElem_cons_zero, List.setIfInBounds_toArray, List.set_cons_zero, List.set_cons_succ])
  (refine wpAnyH_take (i := 5) (v := ?_) rfl (by kernel_rfl) (by kernel_rfl) (by kernel_rfl) (fun _ _ _ h => h) (Or.inl ⟨by kernel_rfl, ?_⟩) (by with_reducible exact hS0) ?_; rotate_left; (focus (rintro w ⟨hSw1, hSw2, hSw3⟩; go_simp; (try with_reducible rfl))); simp only [Act.put, List.getElem_toArray, List.getElem_cons_succ, List.getElem_cons_zero, List.setIfInBounds_toArray, List.set_cons_zero, List.set_cons_succ])
  (refine wpAnyH_take (i := 6) (v := ?_) rfl (by kernel_rfl) (by kernel_rfl) (by kernel_rfl) (fun _ _ _ h => h) (Or.inl ⟨by kernel_rfl, ?_⟩) (by with_reducible exact hS0) ?_; rotate_left; (focus (rintro w ⟨hSw1, hSw2, hSw3⟩; go_simp; (try with_reducible rfl))); simp only [Act.put, List.getElem_toArray, List.getElem_cons_succ, List.getElem_cons_zero, List.setIfInBounds_toArray, List.set_cons_zero, List.set_cons_succ])
  (refine wpAnyH_take (i := 7) (v := ?_) rfl (by kernel_rfl) (by kernel_rfl) (by kernel_rfl) (fun _ _ _ h => h) (Or.inl ⟨by kernel_rfl, ?_⟩) (by with_reducible exact hS0) ?_; rotate_left; (focus (rintro w ⟨hSw1, hSw2, hSw3⟩; go_simp; (try with_reducible rfl))); simp only [Act.put, List.getElem_toArray, List.getElem_cons_succ, List.getElem_cons_zero, List.setIfInBounds_toArray, List.set_cons_zero, List.set_cons_succ])
  (refine wpAnyH_take (i := 8) (v := ?_) rfl (by kernel_rfl) (by kernel_rfl) (by kernel_rfl) (fun _ _ _ h => h) (Or.inl ⟨by kernel_rfl, ?_⟩) (by with_reducible exact hS0) ?_; rotate_left; (focus (rintro w ⟨hSw1, hSw2, hSw3⟩; go_simp; (try with_reducible rfl))); simp only [Act.put, List.getElem_toArray, List.getElem_cons_succ, List.getElem_cons_zero, List.setIfInBounds_toArray, List.set_cons_zero, List.set_cons_succ])
  (refine wpAnyH_take (i := 9) (v := ?_) rfl (by kernel_rfl) (by kernel_rfl) (by kernel_rfl) (fun _ _ _ h => h) (Or.inl ⟨by kernel_rfl, ?_⟩) (by with_reducible exact hS0) ?_; rotate_left; (focus (rintro w ⟨hSw1, hSw2, hSw3⟩; go_simp; (try with_reducible rfl))); simp only [Act.put, List.getElem_toArray, List.getElem_cons_succ, List.getElem_cons_zero, List.setIfInBounds_toArray, List.set_cons_zero, List.set_cons_succ])
  (refine wpAnyH_take (i := 10) (v := ?_) rfl (by kernel_rfl) (by kernel_rfl) (by kernel_rfl) (fun _ _ _ h => h) (Or.inl ⟨by kernel_rfl, ?_⟩) (by with_reducible exact hS0) ?_; rotate_left; (focus (rintro w ⟨hSw1, hSw2, hSw3⟩; go_simp; (try with_reducible rfl))); simp only [Act.put, List.getElem_toArray, List.getElem_cons_succ, List.getElem_cons_zero, List.setIfInBounds_toArray, List.set_cons_zero, List.set_cons_succ])
  (refine wpAnyH_take (i := 11) (v := ?_) rfl (by kernel_rfl) (by kernel_rfl) (by kernel_rfl) (fun _ _ _ h => h) (Or.inl ⟨by kernel_rfl, ?_⟩) (by with_reducible exact hS0) ?_; rotate_left; (focus (rintro w ⟨hSw1, hSw2, hSw3⟩; go_simp; (try with_reducible rfl))); simp only [Act.put, List.getElem_toArray, List.getElem_cons_succ, List.getElem_cons_zero, List.setIfInBounds_toArray, List.set_cons_zero, List.set_cons_succ])
  (refine wpAnyH_take (i := 12) (v := ?_) rfl (by kernel_rfl) (by kernel_rfl) (by kernel_rfl) (fun _ _ _ h => h) (Or.inl ⟨by kernel_rfl, ?_⟩) (by with_reducible exact hS0) ?_; rotate_left; (focus (rintro w ⟨hSw1, hSw2, hSw3⟩; go_simp; (try with_reducible rfl))); simp only [Act.put, List.getElem_toArray, List.getElem_cons_succ, List.getElem_cons_zero, List.setIfInBounds_toArray, List.set_cons_zero, List.set_cons_succ])
  (refine wpAnyH_take (i := 13) (v := ?_) rfl (by kernel_rfl) (by kernel_rfl) (by kernel_rfl) (fun _ _ _ h => h) (Or.inl ⟨by kernel_rfl, ?_⟩) (by with_reducible exact hS0) ?_; rotate_left; (focus (rintro w ⟨hSw1, hSw2, hSw3⟩; go_simp; (try with_reducible rfl))); simp only [Act.put, List.getElem_toArray, List.getElem_cons_succ, List.getElem_cons_zero, List.setIfInBounds_toArray, List.set_cons_zero, List.set_cons_succ])
  (refine wpAnyH_take (i := 14) (v := ?_) rfl (by kernel_rfl) (by kernel_rfl) (by kernel_rfl) (fun _ _ _ h => h) (Or.inl ⟨by kernel_rfl, ?_⟩) (by with_reducible exact hS0) ?_; rotate_left; (focus (rintro w ⟨hSw1, hSw2, hSw3⟩; go_simp; (try with_reducible rfl))); simp only [Act.put, List.getElem_toArray, List.getElem_cons_succ, List.getElem_cons_zero, List.setIfInBounds_toArray, List.set_cons_zero, List.set_cons_succ])
  (refine wpAnyH_take (i := 15) (v := ?_) rfl (by kernel_rfl) (by kernel_rfl) (by kernel_rfl) (fun _ _ _ h => h) (Or.inl ⟨by kernel_rfl, ?_⟩) (by with_reducible exact hS0) ?_; rotate_left; (focus (rintro w ⟨hSw1, hSw2, hSw3⟩; go_simp; (try with_reducible rfl))); simp only [Act.put, List.getElem_toArray, List.getElem_cons_succ, List.getElem_cons_zero, List.setIfInBounds_toArray, List.set_cons_zero, List.set_cons_succ])
  (refine wpAnyH_take (i := 16) (v := ?_) rfl (by kernel_rfl) (by kernel_rfl) (by kernel_rfl) (fun _ _ _ h => h) (Or.inl ⟨by kernel_rfl, ?_⟩) (by with_reducible exact hS0) ?_; rotate_left; (focus (rintro w ⟨hSw1, hSw2, hSw3⟩; go_simp; (try with_reducible rfl))); simp only [Act.put, List.getElem_toArray, List.getElem_cons_succ, List.getElem_cons_zero, List.setIfInBounds_toArray, List.set_cons_zero, List.set_cons_succ])
  (refine wpAnyH_take (i := 18) (v := ?_) rfl (by kernel_rfl) (by kernel_rfl) (by kernel_rfl) (fun _ _ _ h => h) (Or.inl ⟨by kernel_rfl, ?_⟩) (by with_reducible exact hS0) ?_; rotate_left; (focus (rintro w ⟨hSw1, hSw2, hSw3⟩; go_simp; (try with_reducible rfl))); simp only [Act.put, List.getElem_toArray, List.getElem_cons_succ, List.getElem_cons_zero, List.setIfInBounds_toArray, List.set_cons_zero, List.set_cons_succ])
  refine anyH_two 17 19 (by kernel_rfl) rfl (by rfl) rfl (by rfl) (fun K hK => ?_) (fun K hK => ?_)
  focus
    go_simp
    refine hK _ _ (H4.out _ (by (repeat (first | exact Keeps.refl _ _ | refine Keeps.drew ?_ | refine Keeps.alloc ?_ _ | refine Keeps.setCell (S := fun k => k = lb) (p := ⟨lb, 1, none⟩) ?_ (fun _ => rfl) _ | with_reducible refine Keeps.trans ?_ K5.out)))) ?_
    clear hK K
    try simp only [Act.put, List.getElem_toArray, List.getElem_cons_succ, List.getElem_cons_zero, List.setIfInBounds_toArray, List.set_cons_zero, List.set_cons_succ]
    refine anyH_one 19 (by kernel_rfl) rfl (by rfl) (fun K hK => ?_)
    go_simp
    refine hK _ _ (H4.out _ (by (repeat (first | exact Keeps.refl _ _ | refine Keeps.drew ?_ | refine Keeps.alloc ?_ _ | refine Keeps.setCell (S := fun k => k = lb) (p := ⟨lb, 1, none⟩) ?_ (fun _ => rfl) _ | with_reducible refine Keeps.trans ?_ K5.out)))) ?_
    clear hK K
    try simp only [Act.put, List.getElem_toArray, List.getElem_cons_succ, List.getElem_cons_zero, List.setIfInBounds_toArray, List.set_cons_zero, List.set_cons_succ]
    refine wpAnyH_ready (rs := [20]) (by kernel_rfl) (by simp) (AllReadyH.cons rfl (fun K hK => ?_) AllReadyH.nil)
    refine step_app_w elW rfl (.tmp 42) (.tmp 44) rfl _ [] 0 none 0 rfl (World.ownsRow_nil _ _ _ _) () _ rfl (by exact HNW.out) (by decide) (Nat.le_refl _) ?_
    intro g' cap' w5 hown hgrow
    have k5 := (Keeps.refl (fun _ => False) _).grown hgrow (fun k _ e => by cases e)
    have hl5 := Blk.kd (HL4.out.alloc (.cells #[.int .u8 1, .int .u32 5, .int .u32 3, .int .u32 0, .int .i32 0, .int .i32 0, .int .u32 0, .int .u8 0, .slice none 0 0, .slice none 0 0, .int .i32 0, .string ⟨#[]⟩, .int .u32 0, .bool false] 51)) k5
    have c5 := hl5.cell 1
    have f5 := hl5.frozen 1
    have HL5 := Lib.hid hl5
    have K5 := Lib.hid (k5.mono (T := fun k => k = lb) (fun _ _ h => h.elim))
    clear hown hgrow k5 hl5
    refine hK.out _ _ (H4.out _ (by (repeat (first | exact Keeps.refl _ _ | refine Keeps.drew ?_ | refine Keeps.alloc ?_ _ | refine Keeps.setCell (S := fun k => k = lb) (p := ⟨lb, 1, none⟩) ?_ (fun _ => rfl) _ | with_reducible refine Keeps.trans ?_ K5.out)))) (fun hS0 => ?_)
    clear hK K
    try simp only [Act.put, List.getElem_toArray, List.getElem_cons_succ, List.getElem_cons_zero, List.setIfInBounds_toArray, List.set_cons_zero, List.set_cons_succ]
    (refine wpAnyH_take (i := 21) (v := ?_) rfl (by kernel_rfl) (by kernel_rfl) (by kernel_rfl) (fun _ _ _ h => h) (Or.inl ⟨by kernel_rfl, ?_⟩) (by exact H4.out _ (by (repeat (first | exact Keeps.refl _ _ | refine Keeps.drew ?_ | refine Keeps.alloc ?_ _ | refine Keeps.setCell (S := fun k => k = lb) (p := ⟨lb, 1, none⟩) ?_ (fun _ => rfl) _ | with_reducible refine Keeps.trans ?_ K5.out)))) ?_; rotate_left; (focus (rintro w ⟨hSw1, hSw2, hSw3⟩; go_simp; (try with_reducible rfl))); simp only [Act.put, List.getElem_toArray, List.getElem_cons_succ, List.getElem_cons_zero, List.setIfInBounds_toArray, List.set_cons_zero, List.set_cons_succ])
    refine wpAnyH_ready (rs := [22]) (by kernel_rfl) (by simp) (AllReadyH.cons rfl (fun K hK => ?_) AllReadyH.nil)
    rw [if_pos (by rfl)]
    go_simp
    refine hK.out _ _ (H4.out _ (by (repeat (first | exact Keeps.refl _ _ | refine Keeps.drew ?_ | refine Keeps.alloc ?_ _ | refine Keeps.setCell (S := fun k => k = lb) (p := ⟨lb, 1, none⟩) ?_ (fun _ => rfl) _ | with_reducible refine Keeps.trans ?_ K5.out)))) (fun hSx => ?_)
    try dsimp only at hSx
    clear hK K
    try simp only [Act.put, List.getElem_toArray, List.getElem_cons_succ, List.getElem_cons_zero, List.setIfInBounds_toArray, List.set_cons_zero, List.set_cons_succ]
    refine wpAnyH_done (by kernel_rfl) ?_ _
  rotate_left
  focus
    go_simp
    refine hK _ _ (H4.out _ (by (repeat (first | exact Keeps.refl _ _ | refine Keeps.drew ?_ | refine Keeps.alloc ?_ _ | refine Keeps.setCell (S := fun k => k = lb) (p := ⟨lb, 1, none⟩) ?_ (fun _ => rfl) _ | with_reducible refine Keeps.trans ?_ K5.out)))) ?_
    clear hK K
    try simp only [Act.put, List.getElem_toArray, List.getElem_cons_succ, List.getElem_cons_zero, List.setIfInBounds_toArray, List.set_cons_zero, List.set_cons_succ]
    refine anyH_one 17 (by kernel_rfl) rfl (by rfl) (fun K hK => ?_)
    go_simp
    refine hK _ _ (H4.out _ (by (repeat (first | exact Keeps.refl _ _ | refine Keeps.drew ?_ | refine Keeps.alloc ?_ _ | refine Keeps.setCell (S := fun k => k = lb) (p := ⟨lb, 1, none⟩) ?_ (fun _ => rfl) _ | with_reducible refine Keeps.trans ?_ K5.out)))) ?_
    clear hK K
    try simp only [Act.put, List.getElem_toArray, List.getElem_cons_succ, List.getElem_cons_zero, List.setIfInBounds_toArray, List.set_cons_zero, List.set_cons_succ]
    refine wpAnyH_ready (rs := [20]) (by kernel_rfl) (by simp) (AllReadyH.cons rfl (fun K hK => ?_) AllReadyH.nil)
    refine step_app_w elW rfl (.tmp 42) (.tmp 44) rfl _ [] 0 none 0 rfl (World.ownsRow_nil _ _ _ _) () _ rfl (by exact HNW.out) (by decide) (Nat.le_refl _) ?_
    intro g' cap' w5 hown hgrow
    have k5 := (Keeps.refl (fun _ => False) _).grown hgrow (fun k _ e => by cases e)
    have hl5 := Blk.kd (HL4.out.alloc (.cells #[.int .u8 1, .int .u32 5, .int .u32 3, .int .u32 0, .int .i32 0, .int .i32 0, .int .u32 0, .int .u8 0, .slice none 0 0, .slice none 0 0, .int .i32 0, .string ⟨#[]⟩, .int .u32 0, .bool false] 51)) k5
    have c5 := hl5.cell 1
    have f5 := hl5.frozen 1
    have HL5 := Lib.hid hl5
    have K5 := Lib.hid (k5.mono (T := fun k => k = lb) (fun _ _ h => h.elim))
    clear hown hgrow k5 hl5
    refine hK.out _ _ (H4.out _ (by (repeat (first | exact Keeps.refl _ _ | refine Keeps.drew ?_ | refine Keeps.alloc ?_ _ | refine Keeps.setCell (S := fun k => k = lb) (p := ⟨lb, 1, none⟩) ?_ (fun _ => rfl) _ | with_reducible refine Keeps.trans ?_ K5.out)))) (fun hS0 => ?_)
    clear hK K
    try simp only [Act.put, List.getElem_toArray, List.getElem_cons_succ, List.getElem_cons_zero, List.setIfInBounds_toArray, List.set_cons_zero, List.set_cons_succ]
    (refine wpAnyH_take (i := 21) (v := ?_) rfl (by kernel_rfl) (by kernel_rfl) (by kernel_rfl) (fun _ _ _ h => h) (Or.inl ⟨by kernel_rfl, ?_⟩) (by exact H4.out _ (by (repeat (first | exact Keeps.refl _ _ | refine Keeps.drew ?_ | refine Keeps.alloc ?_ _ | refine Keeps.setCell (S := fun k => k = lb) (p := ⟨lb, 1, none⟩) ?_ (fun _ => rfl) _ | with_reducible refine Keeps.trans ?_ K5.out)))) ?_; rotate_left; (focus (rintro w ⟨hSw1, hSw2, hSw3⟩; go_simp; (try with_reducible rfl))); simp only [Act.put, List.getElem_toArray, List.getElem_cons_succ, List.getElem_cons_zero, List.setIfInBounds_toArray, List.set_cons_zero, List.set_cons_succ])
    refine wpAnyH_ready (rs := [22]) (by kernel_rfl) (by simp) (AllReadyH.cons rfl (fun K hK => ?_) AllReadyH.nil)
    rw [if_pos (by rfl)]
    go_simp
    refine hK.out _ _ (H4.out _ (by (repeat (first | exact Keeps.refl _ _ | refine Keeps.drew ?_ | refine Keeps.alloc ?_ _ | refine Keeps.setCell (S := fun k => k = lb) (p := ⟨lb, 1, none⟩) ?_ (fun _ => rfl) _ | with_reducible refine Keeps.trans ?_ K5.out)))) (fun hSx => ?_)
    try dsimp only at hSx
    clear hK K
    try simp only [Act.put, List.getElem_toArray, List.getElem_cons_succ, List.getElem_cons_zero, List.setIfInBounds_toArray, List.set_cons_zero, List.set_cons_succ]
    refine wpAnyH_done (by kernel_rfl) ?_ _
  all_goals
    go_wp2_with (first
      | (go_at_call 62; (with_reducible refine (copied_t _).mono ?_); rintro e w6 ⟨rfl, hk6⟩; have k6 := (Keeps.trans (by (repeat (first | exact Keeps.refl _ _ | refine Keeps.drew ?_ | refine Keeps.alloc ?_ _ | refine Keeps.setCell (S := fun k => k = lb) (p := ⟨lb, 1, none⟩) ?_ (fun _ => rfl) _ | with_reducible refine Keeps.trans ?_ K5.out))) (hk6.mono (T := fun k => k = lb) (fun _ _ h => h.elim)) : Keeps (fun k => k = lb) (w1.alloc (.cells #[.int .u8 1, .int .u32 5, .int .u32 3, .int .u32 0, .int .i32 0, .int .i32 0, .int .u32 0, .int .u8 0, .slice none 0 0, .slice none 0 0, .int .i32 0, .string ⟨#[]⟩, .int .u32 0, .bool false] 51)) w6); have hq6 := HG.out w6 k6; have H6 := Lib.hid (And.intro k6 hq6); clear hk6 k6 hq6)
      | (with_reducible refine wpList_store_blk rfl 32 (.tmp 50) (.tmp 49) rfl w1.heap.size 0 51 [.int .u8 1, .int .u32 5, .int .u32 3, .int .u32 0, .int .i32 0, .int .i32 0, .int .u32 0, .int .u8 0, .slice none 0 0, .slice none 0 0, .int .i32 0, .string ⟨#[]⟩, .int .u32 0, .bool false] #[.int .u8 1, .int .u32 5, .int .u32 3, .int .u32 0, .int .i32 0, .int .i32 0, .int .u32 0, .int .u8 0, .slice none 0 0, .slice none 0 0, .int .i32 0, .string ⟨#[]⟩] rfl rfl H6.out.2.2.1 wfit0 cmd_info0 wone0 ?_; intro w7 hb7 hg7 hz7; have hb7' := wsame hb7; have c7 := hb7'.cell; have H7 := Lib.hid (And.intro hb7' hg7); clear hb7 hg7 hz7 hb7')
      | (with_reducible refine wpList_store_blk rfl 53 (.tmp 56) (.tmp 54) rfl ob 13 73 (ordL B) #[.int .i64 1, .int .u8 1, .int .u32 5, .int .u32 3, .int .u32 0, .int .i32 0, .int .i32 0, .int .u32 0, .int .u8 0, .slice none 0 0, .slice none 0 0, .int .i32 0, .string ⟨#[]⟩, .int .u32 0, .bool false, .int .i64 (-1), .int .u32 0] rfl rfl (H6.out.2.1.grown H7.out.2 HGN.out.1) (tfit B) tinfo tone ?_; intro w8 hb8 hg8 hz8; have H8 := Lib.hid (And.intro (tsame hb8) hg8); clear hb8 hg8 hz8)
      | (with_reducible refine wpList_store_blk rfl 49 (.tmp 4) (.tmp 57) rfl w.heap.size 0 49 (repL 0 0) (repL 0 0).toArray rfl rfl ((H6.out.2.2.2.grown H7.out.2 HGN.out.2.1).grown H8.out.2 HGN.out.2.2) rfit (rep_info 0 0) rone ?_; intro w9 hb9 hg9 hz9; have H9 := Lib.hid (And.intro (rsame hb9) hg9); clear hb9 hg9 hz9))
    refine bodyPost_ret (results_cell_row rfl _ _ _ _ _ _ _ rfl H9.out.1 Tryz.underlying49 rfl (rep_info 0 0)) rfl ?_
    have hz1 := K0.out
    have kA : Keeps (fun k => k = ob ∨ k = lb) w (w1.alloc (.cells #[.int .u8 1, .int .u32 5, .int .u32 3, .int .u32 0, .int .i32 0, .int .i32 0, .int .u32 0, .int .u8 0, .slice none 0 0, .slice none 0 0, .int .i32 0, .string ⟨#[]⟩, .int .u32 0, .bool false] 51)) := (HR.out.2.trans HWK.out).mono (fun _ _ h => h.elim)
    have kB := kA.then H6.out.1 (fun _ _ e => .inr e)
    have kC := (kB.grown H7.out.2 (fun k hk e => by injection e with e; omega)).grown H8.out.2 (fun k hk e => .inl (by injection e with e; exact e.symm))
    exact ⟨rfl, kC.grown H9.out.2 (fun k hk e => by injection e with e; omega), H8.out.1.grown H9.out.2 (fun e => HGN.out.2.2 e.symm)⟩
end Am
end Go.Proofs.YtldlkepagmmohaaGreatDoor
