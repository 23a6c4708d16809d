/-
  'AdmitLanes' answers true for every size and every command; what came in reads as it did. The listed variables read as the card ties them; no further condition.
-/
import Derived.Test.YtldlkepagmmohaaGreatDoorAmO
import Derived.Test.YtldlkepagmmohaaGreatDoorCards
import Derived.Test.YtldlkepagmmohaaGreatDoorTie
import Derived.ProofKit
import Derived.LaidMore
import Derived.Lay
import Derived.OpenShut
import Derived.ShutString
import Derived.Stop.Joined
import Derived.SevenTiedAt
namespace Go.Proofs.YtldlkepagmmohaaGreatDoor.admitLanes
open Go.ChangeShapes Go.WideShapes Go.ChangeAt Go.RowKit
set_option linter.unusedVariables false

theorem own : ownKnob Tryz.prog.godebug = none := by kernel_rfl
theorem laidOut : laidOutB Tryz.prog = true := by kernel_rfl
theorem cell_int {P : Program} {w : World} {r : Reach} {b : Nat} {u : TypeId} {k : IntKind} {v : Value} (ht : P.underlying u = some (.int k)) (h : Cell.okWide P w r b u v) : ∃ n, v = .int k n :=
  okWide_int (w := w) (r := r) (base := b) ht (by simp only [Value.okWide, ht]; exact h)
theorem cell_slice {P : Program} {w : World} {r : Reach} {b : Nat} {u e : TypeId} {v : Value} (ht : P.underlying u = some (.slice e)) (h : Cell.okWide P w r b u v) : ∃ a n c, v = .slice a n c :=
  okWide_slice (w := w) (r := r) (base := b) ht (by simp only [Value.okWide, ht]; exact h)
theorem cell_string {P : Program} {w : World} {r : Reach} {b : Nat} {u : TypeId} {v : Value} (ht : P.underlying u = some .string) (h : Cell.okWide P w r b u v) : ∃ s, v = .string s :=
  okWide_string (w := w) (r := r) (base := b) ht (by simp only [Value.okWide, ht]; exact h)
theorem kinds23 : Tryz.prog.cellTypes Tryz.prog.depth 23 = some [3, 3, 3, 3, 3, 3, 3, 3, 3, 2, 3] := by kernel_rfl
theorem cells23 : Tryz.prog.cellsOf 23 = 11 := by kernel_rfl
set_option maxRecDepth 100000 in
theorem cfg_open {w : World} {r : Reach} {b : Nat} {v : Value} (h : Value.okWide Tryz.prog w r b 23 v) :
    ∃ (zs zq zo zf zu zb zv zl zt zc zi : Int), v = .agg #[.int .i64 zs, .int .i64 zq, .int .i64 zo, .int .i64 zf, .int .i64 zu, .int .i64 zb, .int .i64 zv, .int .i64 zl, .int .i64 zt, .int .i64 zc, .int .i64 zi] := by
  simp only [Value.okWide, Tryz.underlying23] at h
  obtain ⟨⟨l⟩, rfl, hs, ts, hts, _, hc⟩ := h
  rw [kinds23] at hts
  obtain rfl := Option.some.inj hts
  rw [cells23] at hs
  match l, hs with
  | [c0, c1, c2, c3, c4, c5, c6, c7, c8, c9, c10], _ =>
    have g : ∀ i v u, #[c0, c1, c2, c3, c4, c5, c6, c7, c8, c9, c10][i]? = some v → ([3, 3, 3, 3, 3, 3, 3, 3, 3, 2, 3] : List TypeId)[i % 11]? = some u → Cell.okWide Tryz.prog w r b u v := fun i v u h1 h2 => by
      obtain ⟨u', hu, hk⟩ := hc i v h1
      have : u' = u := Option.some.inj (hu.symm.trans h2)
      rw [← this]; exact hk
    obtain ⟨zs, rfl⟩ := cell_int Tryz.underlying3 (g 0 c0 3 rfl rfl)
    obtain ⟨zq, rfl⟩ := cell_int Tryz.underlying3 (g 1 c1 3 rfl rfl)
    obtain ⟨zo, rfl⟩ := cell_int Tryz.underlying3 (g 2 c2 3 rfl rfl)
    obtain ⟨zf, rfl⟩ := cell_int Tryz.underlying3 (g 3 c3 3 rfl rfl)
    obtain ⟨zu, rfl⟩ := cell_int Tryz.underlying3 (g 4 c4 3 rfl rfl)
    obtain ⟨zb, rfl⟩ := cell_int Tryz.underlying3 (g 5 c5 3 rfl rfl)
    obtain ⟨zv, rfl⟩ := cell_int Tryz.underlying3 (g 6 c6 3 rfl rfl)
    obtain ⟨zl, rfl⟩ := cell_int Tryz.underlying3 (g 7 c7 3 rfl rfl)
    obtain ⟨zt, rfl⟩ := cell_int Tryz.underlying3 (g 8 c8 3 rfl rfl)
    obtain ⟨zc, rfl⟩ := cell_int Tryz.underlying2 (g 9 c9 2 rfl rfl)
    obtain ⟨zi, rfl⟩ := cell_int Tryz.underlying3 (g 10 c10 3 rfl rfl)
    exact ⟨zs, zq, zo, zf, zu, zb, zv, zl, zt, zc, zi, rfl⟩
theorem kinds32 : Tryz.prog.cellTypes Tryz.prog.depth 32 = some [24, 25, 25, 25, 21, 21, 25, 26, 27, 28, 21, 9] := by kernel_rfl
theorem cells32 : Tryz.prog.cellsOf 32 = 12 := by kernel_rfl
set_option maxRecDepth 100000 in
theorem cmd_open {w : World} {r : Reach} {b : Nat} {v : Value} (h : Value.okWide Tryz.prog w r b 32 v) :
    ∃ (k id nu ti x y dw sk sz : Int) (va h_a : Option Addr) (vn vc h_n h_c : Nat) (rl : ByteArray), v = .agg #[.int .u8 k, .int .u32 id, .int .u32 nu, .int .u32 ti, .int .i32 x, .int .i32 y, .int .u32 dw, .int .u8 sk, .slice va vn vc, .slice h_a h_n h_c, .int .i32 sz, .string rl] := by
  simp only [Value.okWide, Tryz.underlying32] at h
  obtain ⟨⟨l⟩, rfl, hs, ts, hts, _, hc⟩ := h
  rw [kinds32] at hts
  obtain rfl := Option.some.inj hts
  rw [cells32] at hs
  match l, hs with
  | [c0, c1, c2, c3, c4, c5, c6, c7, c8, c9, c10, c11], _ =>
    have g : ∀ i v u, #[c0, c1, c2, c3, c4, c5, c6, c7, c8, c9, c10, c11][i]? = some v → ([24, 25, 25, 25, 21, 21, 25, 26, 27, 28, 21, 9] : List TypeId)[i % 12]? = some u → Cell.okWide Tryz.prog w r b u v := fun i v u h1 h2 => by
      obtain ⟨u', hu, hk⟩ := hc i v h1
      have : u' = u := Option.some.inj (hu.symm.trans h2)
      rw [← this]; exact hk
    obtain ⟨k, rfl⟩ := cell_int Tryz.underlying24 (g 0 c0 24 rfl rfl)
    obtain ⟨id, rfl⟩ := cell_int Tryz.underlying25 (g 1 c1 25 rfl rfl)
    obtain ⟨nu, rfl⟩ := cell_int Tryz.underlying25 (g 2 c2 25 rfl rfl)
    obtain ⟨ti, rfl⟩ := cell_int Tryz.underlying25 (g 3 c3 25 rfl rfl)
    obtain ⟨x, rfl⟩ := cell_int Tryz.underlying21 (g 4 c4 21 rfl rfl)
    obtain ⟨y, rfl⟩ := cell_int Tryz.underlying21 (g 5 c5 21 rfl rfl)
    obtain ⟨dw, rfl⟩ := cell_int Tryz.underlying25 (g 6 c6 25 rfl rfl)
    obtain ⟨sk, rfl⟩ := cell_int Tryz.underlying26 (g 7 c7 26 rfl rfl)
    obtain ⟨va, vn, vc, rfl⟩ := cell_slice Tryz.underlying27 (g 8 c8 27 rfl rfl)
    obtain ⟨h_a, h_n, h_c, rfl⟩ := cell_slice Tryz.underlying28 (g 9 c9 28 rfl rfl)
    obtain ⟨sz, rfl⟩ := cell_int Tryz.underlying21 (g 10 c10 21 rfl rfl)
    obtain ⟨rl, rfl⟩ := cell_string Tryz.underlying9 (g 11 c11 9 rfl rfl)
    exact ⟨k, id, nu, ti, x, y, dw, sk, sz, va, h_a, vn, vc, h_n, h_c, rl, rfl⟩

set_option maxHeartbeats 4000000 in
set_option maxRecDepth 100000 in
theorem lifted (os : Os) (started : os.Started) (H : Type) (enc : TypeId × Value → H) :
    ReturnsInHanded {} Tryz.checked os 3 .any (fun w args => (Rows.admitLanesSpec.pre enc Tryz.prog Tryz.f3 [] false w args ∧ laidMetH Tryz.prog Rows.admitLanesRow.laid w) ∧ sizedMet enc Tryz.prog Tryz.f3 (OpenSpec.ofChange Rows.admitLanesSpec) false w args)
      (Rows.admitLanesSpec.post enc Tryz.prog Tryz.f3 false true false false) := by
  refine returnsInHanded_of_change_and (C := Tryz.checked) (X := fun w _ => laidMetH Tryz.prog Rows.admitLanesRow.laid w) (fun _ _ _ hh h => h.of_heap hh) own started (by kernel_rfl) Tryz.func3
    (ChangeSpec.witness_shaped (enc := enc) (C := Tryz.checked) (os := os) (X := fun w _ => laidMetH Tryz.prog Rows.admitLanesRow.laid w) false (World.laidAll Tryz.prog os Rows.admitLanesRow.laid) #[.agg #[.int .i64 0, .int .i64 0, .int .i64 0, .int .i64 0, .int .i64 0, .int .i64 0, .int .i64 0, .int .i64 0, .int .i64 0, .int .i64 0, .int .i64 0], .agg #[.int .u8 0, .int .u32 0, .int .u32 0, .int .u32 0, .int .i32 0, .int .i32 0, .int .u32 0, .int .u8 0, .slice none 0 0, .slice none 0 0, .int .i32 0, .string ⟨#[]⟩]] 8 (World.laidAll_os _ _ _)
      (World.shaped_of_ZipB (by kernel_rfl) (by kernel_rfl)) (by kernel_rfl) (by kernel_rfl) (by kernel_rfl)
      (by rw [MakeChecks.laidMetH_plain _ _ _ (by kernel_rfl)]; exact laidMet_laidAll _ (by kernel_rfl) (by kernel_rfl))) ?_
  intro W base args ds gs before hval0 hW _ _ hL _
  have hval : ∀ (j : Nat) t v, Tryz.f3.params[j]? = some t → args[j]? = some v → Value.okWide Tryz.prog W .any base t v := hval0
  have hW' := hW
  obtain ⟨p, q, hA0, hV, rfl, hfz, hnd⟩ := hW
  have hA : DataW.TrodAll enc Tryz.prog W 0 (fun _ => true) true Tryz.f3.params.toList args.toList ds p := hA0
  rw [Tryz.params3] at hA hval
  obtain ⟨v0, v1, d0, d1, p0, p1, rfl, rfl, rfl, h0, h1⟩ := trodAll_two hA
  obtain ⟨rfl, rfl⟩ := trodVars_none hV
  have k0 := h0
  have k1 := h1
  have lt0 : ∀ x ∈ p0, x.block < W.heap.size := by obtain ⟨m, hm⟩ := k0; exact DataW.trod_lt m _ _ _ hm
  have lt1 : ∀ x ∈ p1, x.block < W.heap.size := by obtain ⟨m, hm⟩ := k1; exact DataW.trod_lt m _ _ _ hm
  obtain ⟨zs, zq, zo, zf, zu, zb, zv, zl, zt, zc, zi, rfl⟩ := cfg_open (hval 0 23 v0 rfl rfl)
  obtain ⟨k, id, nu, ti, x, y, dw, sk, sz, va, h_a, vn, vc, h_n, h_c, rl, rfl⟩ := cmd_open (hval 1 32 v1 rfl rfl)
  clear hA0 hval0
  refine (Am.law_t zs zq zo zf zu zb zv zl zt zc zi k id nu ti x y dw sk sz va h_a vn vc h_n h_c rl W).mono fun e W' ⟨he, hk⟩ => ?_
  have bel : Below W.heap.size W W' := hk.below (Nat.le_refl _) (fun _ _ h => h)
  subst he
  exact ⟨_, rfl, _, _, _, [], _, [], hW', trodAll_mk1 (shut_bool Tryz.underlying4 _), (trodAll_cons_mk (Below.trod laidOut (by kernel_rfl) (of_decide_eq_true (by kernel_rfl)) k0 bel lt0) (trodAll_cons_mk (Below.trod laidOut (by kernel_rfl) (of_decide_eq_true (by kernel_rfl)) k1 bel lt1) trodAll_mk0)), rfl, bel.frame _, fun h => by cases h⟩

/- The closed facts of the row, a lemma each: in one declaration the kernel outgrows its lid. -/
theorem and_t {a b : Bool} (h : a = true) (k : b = true) : (a && b) = true := by rw [h, k]; rfl
set_option maxHeartbeats 4000000 in
set_option maxRecDepth 100000 in
theorem joined : joinedFacts Tryz.prog 3 Tryz.f3 Rows.admitLanesSpec Rows.admitLanesRow = true := by
  unfold joinedFacts
  repeat' (with_reducible refine and_t ?_ ?_)
  all_goals (as_aux_lemma => kernel_rfl)

theorem row : Rows.AdmitLanesSaid :=
  OpenClaim.holds_of_wide 3 Tryz.f3 rfl rfl rfl rfl rfl rfl rfl ⟨rfl, rfl, rfl, rfl, rfl⟩ rfl rfl rfl rfl rfl (by kernel_rfl) Tryz.func3 joined
    (of_decide_eq_true (by kernel_rfl)) (by unfold Func.isWrapper; first | (rw [if_pos (by decide +kernel)]; kernel_rfl) | (rw [if_neg (by decide +kernel)]; exact ⟨rfl, rfl⟩))
    (fun os started H enc _ => lifted os started H enc)

theorem proved : Rows.AdmitLanesCardSaid :=
  Claim7.holds_tied_plain_at .later [] [.data, .data, .widerDeep, .widerDeep, .data, .data, .data, .data, .data, .data, .sentinel, .sentinel, .pinned, .pinned, .pinned] true (true, "28c5969df75085ab0358b916b1e57dc109d58e159eb7a4977fadafc2fb1f68d9") true
    row (fun _ h => by cases h) (by kernel_rfl) (fun _ h => by cases h) admitLanes_row_tie rfl ⟨rfl, rfl⟩ (by kernel_rfl) rfl
    (fun f fn hf hfn => by
      obtain rfl : f = 3 := Option.some.inj ((show Tryz.prog.funcNamed "paddock/paddocklaw26.AdmitLanes" = some 3 by kernel_rfl).symm.trans hf) |>.symm
      obtain rfl : fn = Tryz.f3 := (Option.some.inj (Tryz.func3.symm.trans hfn)).symm
      exact ⟨by kernel_rfl, fun j t ht => by
        rw [Tryz.params3] at ht
        have hm : t ∈ [23, 32] := by simpa using Array.mem_of_getElem? ht
        have hall : ([23, 32].all fun u => !Tryz.prog.wantsStandIn u) = true := by kernel_rfl
        exact (show Tryz.prog.wantsStandIn t = false by simpa using List.all_eq_true.1 hall t hm)⟩)
    (by kernel_rfl)
#print axioms proved
end Go.Proofs.YtldlkepagmmohaaGreatDoor.admitLanes
