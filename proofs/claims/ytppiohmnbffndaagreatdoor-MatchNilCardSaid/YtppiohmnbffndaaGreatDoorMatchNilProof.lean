/-
  'MatchNil' answers true for every call; what came in reads as it did. The listed variable reads as the card ties it; no further condition.
-/
import Derived.Test.YtppiohmnbffndaaGreatDoorMatA
import Derived.Test.YtppiohmnbffndaaGreatDoorCards
import Derived.Test.YtppiohmnbffndaaGreatDoorTie
import Derived.ProofKit
import Derived.LaidMore
import Derived.OpenShut
import Derived.ShutString
import Derived.Stop.Joined
import Derived.SevenTiedAt
namespace Go.Proofs.YtppiohmnbffndaaGreatDoor.matchNil
open Go.ChangeShapes Go.WideShapes Go.ChangeAt Go.RowKit
set_option linter.unusedVariables false

theorem own : ownKnob Tryz.prog.godebug = none := by kernel_rfl
theorem laidOut : laidOutB Tryz.prog = true := by kernel_rfl
theorem kinds : Tryz.prog.cellTypes Tryz.prog.depth 33 = some [3, 22, 22, 22, 21, 21, 22, 22, 25, 26, 27, 21, 22] := by kernel_rfl
theorem cells33 : Tryz.prog.cellsOf 33 = 13 := by kernel_rfl
theorem cell_int {P : Program} {w : World} {r : Reach} {b : Nat} {u : TypeId} {k : IntKind} {v : Value} (ht : P.underlying u = some (.int k)) (h : Cell.okWide P w r b u v) : ∃ n, v = .int k n :=
  okWide_int (w := w) (r := r) (base := b) ht (by simp only [Value.okWide, ht]; exact h)
theorem cell_slice {P : Program} {w : World} {r : Reach} {b : Nat} {u e : TypeId} {v : Value} (ht : P.underlying u = some (.slice e)) (h : Cell.okWide P w r b u v) : ∃ a n c, v = .slice a n c :=
  okWide_slice (w := w) (r := r) (base := b) ht (by simp only [Value.okWide, ht]; exact h)
set_option maxRecDepth 100000 in
theorem step_open {w : World} {r : Reach} {b : Nat} {v : Value} (h : Value.okWide Tryz.prog w r b 33 v) :
    ∃ (k id nu ti px py fid dw sk sz ck : Int) (va ha : Option Addr) (vn vc hn hc : Nat), v = .agg #[.int .i64 k, .int .u32 id, .int .u32 nu, .int .u32 ti, .int .i32 px, .int .i32 py, .int .u32 fid, .int .u32 dw, .int .u8 sk, .slice va vn vc, .slice ha hn hc, .int .i32 sz, .int .u32 ck] := by
  simp only [Value.okWide, Tryz.underlying33] at h
  obtain ⟨⟨l⟩, rfl, hs, ts, hts, _, hc⟩ := h
  rw [kinds] at hts
  obtain rfl := Option.some.inj hts
  rw [cells33] at hs
  match l, hs with
  | [c0, c1, c2, c3, c4, c5, c6, c7, c8, c9, c10, c11, c12], _ =>
    have g : ∀ i v u, #[c0, c1, c2, c3, c4, c5, c6, c7, c8, c9, c10, c11, c12][i]? = some v → ([3, 22, 22, 22, 21, 21, 22, 22, 25, 26, 27, 21, 22] : List TypeId)[i % 13]? = some u → Cell.okWide Tryz.prog w r b u v := fun i v u h1 h2 => by
      obtain ⟨u', hu, hk⟩ := hc i v h1
      have : u' = u := Option.some.inj (hu.symm.trans h2)
      rw [← this]; exact hk
    obtain ⟨k, rfl⟩ := cell_int Tryz.underlying3 (g 0 c0 3 rfl rfl)
    obtain ⟨id, rfl⟩ := cell_int Tryz.underlying22 (g 1 c1 22 rfl rfl)
    obtain ⟨nu, rfl⟩ := cell_int Tryz.underlying22 (g 2 c2 22 rfl rfl)
    obtain ⟨ti, rfl⟩ := cell_int Tryz.underlying22 (g 3 c3 22 rfl rfl)
    obtain ⟨px, rfl⟩ := cell_int Tryz.underlying21 (g 4 c4 21 rfl rfl)
    obtain ⟨py, rfl⟩ := cell_int Tryz.underlying21 (g 5 c5 21 rfl rfl)
    obtain ⟨fid, rfl⟩ := cell_int Tryz.underlying22 (g 6 c6 22 rfl rfl)
    obtain ⟨dw, rfl⟩ := cell_int Tryz.underlying22 (g 7 c7 22 rfl rfl)
    obtain ⟨sk, rfl⟩ := cell_int Tryz.underlying25 (g 8 c8 25 rfl rfl)
    obtain ⟨va, vn, vc, rfl⟩ := cell_slice Tryz.underlying26 (g 9 c9 26 rfl rfl)
    obtain ⟨ha, hn, hc', rfl⟩ := cell_slice Tryz.underlying27 (g 10 c10 27 rfl rfl)
    obtain ⟨sz, rfl⟩ := cell_int Tryz.underlying21 (g 11 c11 21 rfl rfl)
    obtain ⟨ck, rfl⟩ := cell_int Tryz.underlying22 (g 12 c12 22 rfl rfl)
    exact ⟨k, id, nu, ti, px, py, fid, dw, sk, sz, ck, va, ha, vn, vc, hn, hc', rfl⟩
theorem door_met (os : Os) (args : Array Value) : laidMetH Tryz.prog Rows.matchNilRow.laid ((World.doorLaid Tryz.prog 400 os).forCall (fun _ _ => 0) ⟨#[], args, []⟩).memory :=
  laidMetH_of_parts3 (fuel := 8) (laidMet_of_run' 8 (by kernel_rfl) (by kernel_rfl)) (by kernel_rfl) (by kernel_rfl)
set_option maxHeartbeats 4000000 in
set_option maxRecDepth 100000 in
theorem lifted (os : Os) (started : os.Started) (H : Type) (enc : TypeId × Value → H) :
    ReturnsInHanded {} Tryz.checked os 3 .any (fun w args => (Rows.matchNilSpec.pre enc Tryz.prog Tryz.f3 [] false w args ∧ laidMetH Tryz.prog Rows.matchNilRow.laid w) ∧ sizedMet enc Tryz.prog Tryz.f3 (OpenSpec.ofChange Rows.matchNilSpec) false w args)
      (Rows.matchNilSpec.post enc Tryz.prog Tryz.f3 false true false false) := by
  refine returnsInHanded_of_change_and (C := Tryz.checked) (X := fun w _ => laidMetH Tryz.prog Rows.matchNilRow.laid w) (fun _ _ _ hh h => h.of_heap hh) own started (by kernel_rfl) Tryz.func3
    (ChangeSpec.witness_shaped (enc := enc) (C := Tryz.checked) (os := os) (X := fun w _ => laidMetH Tryz.prog Rows.matchNilRow.laid w) false (World.doorLaid Tryz.prog 400 os) #[.agg #[.int .i64 0, .int .u32 0, .int .u32 0, .int .u32 0, .int .i32 0, .int .i32 0, .int .u32 0, .int .u32 0, .int .u8 0, .slice none 0 0, .slice none 0 0, .int .i32 0, .int .u32 0]] 8 rfl (World.shaped_of_RefB (by kernel_rfl) (by kernel_rfl)) (by kernel_rfl) (by kernel_rfl) (by kernel_rfl) (door_met os _)) ?_
  intro W base args ds gs before hval0 hW _ _ hL _
  have hval : ∀ (j : Nat) t v, Tryz.f3.params[j]? = some t → args[j]? = some v → Value.okWide Tryz.prog W .any base t v := hval0
  have hW' := hW
  obtain ⟨p, q, hA0, hV, rfl, hfz, hnd⟩ := hW
  have hA : DataW.TrodAll enc Tryz.prog W 0 (fun _ => true) true Tryz.f3.params.toList args.toList ds p := hA0
  rw [Tryz.params3] at hA hval
  obtain ⟨v0, d0, rfl, rfl, h0⟩ := trodAll_one hA
  obtain ⟨rfl, rfl⟩ := trodVars_none hV
  have k0 := h0
  have lt0 : ∀ x ∈ p, x.block < W.heap.size := by obtain ⟨m, hm⟩ := k0; exact DataW.trod_lt m _ _ _ hm
  obtain ⟨k, id, nu, ti, px, py, fid, dw, sk, sz, ck, va, ha, vn, vc, hn, hc, rfl⟩ := step_open (hval 0 33 v0 rfl rfl)
  clear hA0 hval0
  refine (Match.match_nil k id nu ti px py fid dw sk sz ck va ha vn vc hn hc W).mono fun e W' ⟨he, bel⟩ => ?_
  subst he
  exact ⟨_, rfl, _, _, _, [], _, [], hW', trodAll_mk1 (shut_bool Tryz.underlying4 _), (trodAll_cons_mk (Below.trod laidOut (by kernel_rfl) (of_decide_eq_true (by kernel_rfl)) k0 bel lt0) trodAll_mk0), rfl, bel.frame _, fun h => by cases h⟩

theorem row : Rows.MatchNilSaid :=
  OpenClaim.holds_of_wide 3 Tryz.f3 rfl rfl rfl rfl rfl rfl rfl ⟨rfl, rfl, rfl, rfl, rfl⟩ rfl rfl rfl rfl rfl (by kernel_rfl) Tryz.func3 (by kernel_rfl)
    (of_decide_eq_true (by kernel_rfl)) (by unfold Func.isWrapper; first | (rw [if_pos (by decide +kernel)]; kernel_rfl) | (rw [if_neg (by decide +kernel)]; exact ⟨rfl, rfl⟩))
    (fun os started H enc _ => lifted os started H enc)

theorem proved : Rows.MatchNilCardSaid :=
  Claim7.holds_tied_plain_at .later [] [.data] true (true, "dc2fe1574139d827839fbf04c1f23dd37abc297f75c63e7d9346871b7ab0ceaf") false
    row (fun _ h => by cases h) (by kernel_rfl) (fun _ h => by cases h) matchNil_row_tie rfl ⟨rfl, rfl⟩ (by kernel_rfl) rfl
    (fun f fn hf hfn => by
      obtain rfl : f = 3 := Option.some.inj ((show Tryz.prog.funcNamed "paddock/paddocklaw19.MatchNil" = some 3 by kernel_rfl).symm.trans hf) |>.symm
      obtain rfl : fn = Tryz.f3 := (Option.some.inj (Tryz.func3.symm.trans hfn)).symm
      exact ⟨by kernel_rfl, fun j t ht => by
        rw [Tryz.params3] at ht
        have hm : t ∈ [33] := by simpa using Array.mem_of_getElem? ht
        have hall : ([33].all fun u => !Tryz.prog.wantsStandIn u) = true := by kernel_rfl
        exact (show Tryz.prog.wantsStandIn t = false by simpa using List.all_eq_true.1 hall t hm)⟩)
    (by kernel_rfl)
#print axioms proved
end Go.Proofs.YtppiohmnbffndaaGreatDoor.matchNil
