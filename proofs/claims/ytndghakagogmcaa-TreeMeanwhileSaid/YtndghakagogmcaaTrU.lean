/-
  TrU: All of a tree, as a walk.
-/
import Derived.Test.YtndghakagogmcaaTrR
namespace Go.Proofs.Ytndghakagogmcaa
open Go.RowKit Go.Shelf
set_option linter.unusedVariables false
set_option linter.unusedSimpArgs false
attribute [local go_sem] Oper.semAt_some
namespace Tree
open Mem BT
set_option maxHeartbeats 4000000 in
set_option maxRecDepth 100000 in
theorem all_gives (n B T : Nat) (ST : Nat → Prop) (L : List (Nat × Bx)) (W : World) (hB : Blk W B 48 [.pointer (some ⟨T, 0, none⟩)]) (h : TrS W T ST L) :
    Gives Try.prog n 62 #[.pointer (some ⟨B, 0, none⟩)] prVals L W (fun _ => True) := by
  refine Gives.any (n := 9) ?_
  intro l J Jx S hA hJ hJx hin hY h0
  obtain ⟨r, t, hH, hM, he, hR, hI, hl, hS⟩ := h
  have k1 := ((Keeps.refl (fun _ => False) W).alloc (.cells #[.int .i32 (-2147483648), .int .i32 (-2147483648), .int .i32 2147483647, .int .i32 2147483647] 47)).alloc (.cells #[.slice none 0 0] 117)
  have hB1 := hB.keeps k1 (fun h => h)
  have hT1 := hH.blk.keeps k1 (fun h => h)
  have hX1 := (Blk.new W 47 [.int .i32 (-2147483648), .int .i32 (-2147483648), .int .i32 2147483647, .int .i32 2147483647]).alloc (.cells #[.slice none 0 0] 117)
  have HTh := Lib.hid (there_yes hT1)
  have cB := hB1.cell
  have cT := hT1.cell
  have cX := hX1.cell
  have cB1 := hB1.drew.cell
  have cT1 := hT1.drew.cell
  have cX1 := hX1.drew.cell
  have cB2 := fun o1 o2 => ((hB1.alloc o1).alloc o2).drew.cell
  have cT2 := fun o1 o2 => ((hT1.alloc o1).alloc o2).drew.cell
  have cX2 := fun o1 o2 => ((hX1.alloc o1).alloc o2).drew.cell
  refine callsIn_of_wp_marks Try.func62 rfl trivial ?_ rfl
  simp only [Try.ntmps62, List.size_toArray, List.length_cons, List.length_nil, Nat.reduceAdd, Nat.reduceSub, Array.replicate_succ, Array.replicate_zero, List.push_toArray, List.append_toArray, List.nil_append, List.cons_append]
  have HY := Lib.hid hY; clear hY
  have HJ := Lib.hid hJ; clear hJ
  have HX := Lib.hid hJx; clear hJx
  have H0 := Lib.hid h0; clear h0
  have HH := Lib.hid hH; clear hH
  clear hM hB1 hT1 hX1 hR hS
  gi_wp2_with (refine ⟨trivial, ?_⟩; gi_at_call 41; refine (callsIn_wide.2 HTh.out).mono ?_; rintro e w1 ⟨rfl, rfl⟩)
  refine wpIn_wide.2 ?_
  go_region_held3 (fun W' => (∀ i : Nat, W'.cell? ⟨B, i, none⟩ = ([.pointer (some ⟨T, 0, none⟩)] : List Value)[i]?) ∧ (∀ i : Nat, W'.cell? ⟨T, i, none⟩ = ([.pointer (ptr t), .map (some r)] : List Value)[i]?) ∧ (∀ i : Nat, W'.cell? ⟨W.heap.size, i, none⟩ = ([.int .i32 (-2147483648), .int .i32 (-2147483648), .int .i32 2147483647, .int .i32 2147483647] : List Value)[i]?)) (first | with_reducible assumption | exact ⟨cB1, cT1, cX1⟩ | exact ⟨cB2 _ _, cT2 _ _, cX2 _ _⟩) (first | (go_at_call 60; refine (each_any _ _ _ _ _ _).mono ?_; rintro e w2 ⟨rfl, rfl⟩))
  gi_wp2
  have b1 := (Blk.new ((W.alloc (.cells #[.int .i32 (-2147483648), .int .i32 (-2147483648), .int .i32 2147483647, .int .i32 2147483647] 47)).alloc (.cells #[.slice none 0 0] 117)) 77 [.pointer (ptr t)]).alloc (.cells #[.int .i32 (-2147483648), .int .i32 (-2147483648), .int .i32 2147483647, .int .i32 2147483647] 47)
  have b2 := Blk.new (((W.alloc (.cells #[.int .i32 (-2147483648), .int .i32 (-2147483648), .int .i32 2147483647, .int .i32 2147483647] 47)).alloc (.cells #[.slice none 0 0] 117)).alloc (.cells #[.pointer (ptr t)] 77)) 47 [.int .i32 (-2147483648), .int .i32 (-2147483648), .int .i32 2147483647, .int .i32 2147483647]
  have b3 := ((Blk.new (W.alloc (.cells #[.int .i32 (-2147483648), .int .i32 (-2147483648), .int .i32 2147483647, .int .i32 2147483647] 47)) 117 [.slice none 0 0]).alloc (.cells #[.pointer (ptr t)] 77)).alloc (.cells #[.int .i32 (-2147483648), .int .i32 (-2147483648), .int .i32 2147483647, .int .i32 2147483647] 47)
  simp only [World.size_alloc] at b1 b2 b3
  obtain ⟨wr, hwr⟩ : ∃ wr, wr = ((((W.alloc (.cells #[.int .i32 (-2147483648), .int .i32 (-2147483648), .int .i32 2147483647, .int .i32 2147483647] 47)).alloc (.cells #[.slice none 0 0] 117)).alloc (.cells #[.pointer (ptr t)] 77)).alloc (.cells #[.int .i32 (-2147483648), .int .i32 (-2147483648), .int .i32 2147483647, .int .i32 2147483647] 47)).drew := ⟨_, rfl⟩
  have e1 : Blk wr (W.heap.size + 1 + 1) 77 [.pointer (ptr t)] := hwr ▸ b1
  have e2 : Blk wr (W.heap.size + 1 + 1 + 1) 47 [.int .i32 Bx.whole.x0, .int .i32 Bx.whole.y0, .int .i32 Bx.whole.x1, .int .i32 Bx.whole.y1] := hwr ▸ b2
  have e3 : Blk wr (W.heap.size + 1) 117 [.slice none 0 0] := hwr ▸ b3
  have k5 : Keeps (fun _ => False) W wr := hwr ▸ ((k1.alloc _).alloc _).drew
  have hz2 : wr.heap.size = W.heap.size + 1 + 1 + 1 + 1 := by rw [hwr]; simp
  have hwh : hits Bx.whole t = nodes t := hits_whole HH.out.ok (by rw [he]; exact hI)
  have hnl : (nodes t).length = L.length := by rw [← he, ← nodes_inord, List.length_map]
  rw [← hwr]
  clear b1 b2 b3 hwr k1 cT cB cX cB1 cT1 cX1 cB2 cT2 cX2 HTh
  refine wpIn_range (gf := 67) (lb := #[.pointer (some ⟨W.heap.size + 1 + 1, 0, none⟩), .pointer (some ⟨W.heap.size + 1 + 1 + 1, 0, none⟩)]) (encs := fun x : Nat × Nat × Bx => #[.pointer (some ⟨x.1, 0, none⟩)]) (xs := nodes t) (A := fun S => ∀ x ∈ blocks t, ¬ S x) rfl (enters_of Try.func67 (by kernel_rfl) rfl)
    (fun W1 hk => hwh ▸ each1_gives 8 _ _ t Bx.whole W1 (e1.keeps hk (fun h => h)) (e2.keeps hk (fun h => h)) HH.out.ok (HH.out.ist.kd (k5.trans hk))) (fun _ => rfl)
    (AllI W (W.heap.size + 1)) (fun _ _ _ _ => False) (RowI.stab _ _ (by omega)) (fun _ _ _ _ _ _ h => h.elim)
    (fun k => k = W.heap.size + 1) (fun k hk => by rw [hk]; omega) ⟨none, 0, e3, World.ownsRow_nil _ _ _ _, k5.below (Nat.le_refl _) (fun _ _ h => h), fun k => by simp [Value.ownBlock]⟩
    (fun S hS x hx h => by have := HH.out.ist.lt x hx; rcases hS x h with h | h <;> omega)
    (fun s S W' => AllI W (W.heap.size + 1) s.1 S W' ∧ Fr s.2.2 46 [(4, .pointer (some ⟨W.heap.size + 1, 0, none⟩)), (5, .pointer (some ⟨s.2.1.1, 0, none⟩))])
    (fun s S T W1 W' hj hi hk hd ht => ⟨RowI.keeps hj.1 hk hd (fun k h => by have := ht k h; omega), hj.2⟩) ?assign ?body ?done ?stop
  case assign =>
    intro l pre x rest S W' hxs hI hin hlt
    gi_wp2
    exact ⟨S, Foot.refl _ _, hin, hI, rfl, rfl, by simp⟩
  case body =>
    rintro l pre x rest a1 S W' hxs ⟨hI, hF⟩ hin hlt
    exact all_body l T (W.heap.size + 1) t W HH.out.ist (by omega) (by omega) pre x rest S W' hxs hI hin a1 hF
  case done =>
    rintro D S' W' hD hnD hf hin' ⟨a, c', h5, hO, hBl, hSS⟩ hDD
    rw [hnl] at h5 hO hSS
    have hcs : allCells (nodes t) = L.flatMap pairCells := by unfold allCells; rw [nodes_inord, he]
    rw [hcs] at hO
    have hcell : ∀ i x, L[i]? = some x → ∃ g, a = some ⟨g, 0, none⟩ ∧ W.heap.size ≤ g ∧ g < W'.heap.size ∧ ∀ j, j < 5 → W'.cell? ⟨g, i * 5 + j, none⟩ = (pairCells x)[j]? := by
      intro i x hx
      have hi : i < L.length := (List.getElem?_eq_some_iff.1 hx).1
      have hO' := hO
      rcases hO'.2 with ⟨_, h0⟩ | ⟨g, cap, cur, hv, h2, h3, h4⟩
      · omega
      · simp only [Value.slice.injEq] at hv
        refine ⟨g, hv.1, (hO.lt g (by rw [hv.1]; rfl)).1, (hO.lt g (by rw [hv.1]; rfl)).2, fun j hj => ?_⟩
        have hfc := flat_cell (f := pairCells) (fun x => rfl) L i j hj x hx
        cases hp : (pairCells x)[j]? with
        | none => exfalso; rw [List.getElem?_eq_none_iff] at hp; simp [pairCells] at hp; omega
        | some u =>
          have hc := hO.cells (g := g) (by rw [hv.1]; rfl) (i * 5 + j) u (by rw [hfc, hp])
          rw [Addr.add_mid] at hc
          simpa using hc
    have jW : J [] S W' := HJ.out [] S (fun k => W.heap.size ≤ k) W W' H0.out hin (Keeps.of_below hBl) (fun k hk h => by have := hin k hk; omega) (fun k h => h)
    have hsz := hBl.size
    have c5 := h5.cell 0
    simp only [List.getElem?_cons_zero] at c5
    have HBl := Lib.hid hBl
    have HC := Lib.hid hcell
    have HD := Lib.hid (And.intro hD hDD)
    have hDlt : D < W'.heap.size := (Array.getElem?_eq_some_iff.1 hDD).1
    have JW := Lib.hid jW
    have HN := Lib.hid hl
    clear hBl hcell hO h5 hSS hDD jW hf hin' hnl hcs hwh he hI e1 e2 e3 k5 HH hl
    have hLn : (L.length : Int) ≤ 1000000 := by have := HN.out; omega
    gi_wp2
    gi_loopw [34] (fun p wk => ∃ (i : Nat) (Sk : Nat → Prop), i ≤ L.length ∧ p = .int .i64 (i : Int) ∧ J (L.take i) Sk wk ∧ Inb Sk wk ∧ Foot S Sk W' wk) (fun p _ => L.length - (intOf p).toNat)
    case atStart => exact ⟨0, S, Nat.zero_le _, rfl, by simpa using JW.out, hin.mono hsz, Foot.refl _ _⟩
    case round =>
      obtain ⟨i, Sk, hi, rfl, hj, hink, hf⟩ := hrel
      have hSD : ¬ Sk D := fun h => by
        rcases hf.2 D h with h | h
        · have := hin D h; have := HD.out.1; omega
        · omega
      have hend : ∀ (K : List (Nat × Bx) → (Nat → Prop) → World → Prop) (pre : List (Nat × Bx)) (S3 : Nat → Prop) (W3 : World), Stab W.heap.size K → Foot S S3 W' W3 → Inb S3 W3 → K pre S3 W3 → ∃ (hDW : W3.heap[D]? = some (.deferred (some []))), Foot S S3 W (W3.putObj D (.deferred none)) ∧ Inb S3 (W3.putObj D (.deferred none)) ∧ K pre S3 (W3.putObj D (.deferred none)) := by
        intro K pre S3 W3 hK hf3 hin3 hk
        have hSD3 : ¬ S3 D := fun h => by
          rcases hf3.2 D h with h | h
          · have := hin D h; have := HD.out.1; omega
          · omega
        have hDS : ¬ S D := fun h => by have := hin D h; have := HD.out.1; omega
        have kD := keeps_putObj W3 D (.deferred none)
        refine ⟨(hf3.1.block D hDlt hDS).trans HD.out.2, ⟨?_, fun k h => ?_⟩, hin3.mono kD.size, hK pre S3 (fun k => k = D) W3 _ hk hin3 kD (fun k h e => hSD3 (e ▸ h)) (fun k e => by have := HD.out.1; omega)⟩
        · exact (((Keeps.of_below0 HBl.out).mono (fun _ _ h => h.elim)).trans hf3.1).then kD (fun k hk e => by have := HD.out.1; omega)
        · rcases hf3.2 k h with h | h
          · exact .inl h
          · exact .inr (by omega)
      have HE := Lib.hid hend
      clear hend
      by_cases hlt : i < L.length
      · obtain ⟨x, hx⟩ : ∃ x, L[i]? = some x := ⟨_, List.getElem?_eq_getElem hlt⟩
        obtain ⟨g, rfl, hg1, hg2, hc⟩ := HC.out i x hx
        have hns : ¬ S g := fun h => by have := hin g h; omega
        have hsplit : L = L.take i ++ x :: L.drop (i + 1) := by
          have := List.drop_eq_getElem_cons hlt
          rw [(List.getElem?_eq_some_iff.1 hx).2] at this
          rw [← this, List.take_append_drop]
        have htk : L.take (i + 1) = L.take i ++ [x] := by
          rw [← List.take_append_getElem hlt, (List.getElem?_eq_some_iff.1 hx).2]
        have q0 : wr.cell? ⟨g, i * 5, none⟩ = some (.int .u32 (x.1 : Int)) := hf.1.cell (p := ⟨g, i * 5, none⟩) (hc 0 (by omega)) hns
        have q1 : wr.cell? ⟨g, i * 5 + 1, none⟩ = some (.int .i32 x.2.x0) := hf.1.cell (p := ⟨g, i * 5 + 1, none⟩) (hc 1 (by omega)) hns
        have q2 : wr.cell? ⟨g, i * 5 + 2, none⟩ = some (.int .i32 x.2.y0) := hf.1.cell (p := ⟨g, i * 5 + 2, none⟩) (hc 2 (by omega)) hns
        have q3 : wr.cell? ⟨g, i * 5 + 3, none⟩ = some (.int .i32 x.2.x1) := hf.1.cell (p := ⟨g, i * 5 + 3, none⟩) (hc 3 (by omega)) hns
        have q4 : wr.cell? ⟨g, i * 5 + 4, none⟩ = some (.int .i32 x.2.y1) := hf.1.cell (p := ⟨g, i * 5 + 4, none⟩) (hc 4 (by omega)) hns
        have kp := (Keeps.refl (fun _ => False) wr).alloc (.cells #[.int .u32 (x.1 : Int), .int .i32 x.2.x0, .int .i32 x.2.y0, .int .i32 x.2.x1, .int .i32 x.2.y1] 119)
        have hzW := hf.1.size
        have hfk : Foot S Sk W' (wr.alloc (.cells #[.int .u32 (x.1 : Int), .int .i32 x.2.x0, .int .i32 x.2.y0, .int .i32 x.2.x1, .int .i32 x.2.y1] 119)) := hf.trans (Foot.same (kp.mono (fun _ _ h => h.elim)))
        obtain ⟨fn, tmps, assign, body, hy, hR⟩ := HY.out (L.take i) x (L.drop (i + 1)) Sk _ hsplit (HJ.out (L.take i) Sk (fun _ => False) wr _ hj hink kp (fun _ _ h => h) (fun _ h => h.elim)) (hink.mono kp.size)
        unfold prVals at hy
        have HT := Lib.hid htk; clear htk hsplit
        have HFK := Lib.hid hfk; clear hfk
        have HXX := Lib.hid hx; clear hx hc
        have hiI : ((i : Int)) < L.length := by omega
        clear hj hink hf kp
        gi_wp2
        refine (hR.mono ?_ : RoundIn _ _ _ _ _ _ _ _ _ _)
        rintro e W3 ⟨S3, hf3, hin3, (⟨rfl, hj3⟩ | ⟨rfl, hj3⟩)⟩
        · gi_wp2
          go_roundw
          case rel => exact ⟨i + 1, S3, by omega, by go_num, by rw [HT.out]; exact hj3, hin3, HFK.out.trans hf3⟩
          case measure => simp [intOf]; omega
        · obtain ⟨hDW, g1, g2, g3⟩ := HE.out Jx (L.take i ++ [x]) S3 W3 HX.out (HFK.out.trans hf3) hin3 hj3
          gi_wp2
          refine ⟨by simp, .inl ⟨_, _, rfl, run_takeDeferred hDW, ?_⟩⟩
          exact ⟨_, results_none rfl _ _ _, ⟨_, rfl⟩, S3, g1, g2, .inr ⟨L.take i ++ [x], ⟨L.drop (i + 1), by rw [← HT.out]; exact List.take_append_drop _ _⟩, g3⟩⟩
      · obtain rfl : i = L.length := by omega
        rw [List.take_length] at hj
        obtain ⟨hDW, g1, g2, g3⟩ := HE.out J L Sk wr HJ.out hf hink hj
        clear hj
        gi_wp2
        refine ⟨by simp, .inl ⟨_, _, rfl, run_takeDeferred hDW, ?_⟩⟩
        exact ⟨_, results_none rfl _ _ _, ⟨_, rfl⟩, Sk, g1, g2, .inl g3⟩
  case stop =>
    intro D c0 pre S' W' hD hnD hf hin hpre hx
    exact hx.elim
end Tree
end Go.Proofs.Ytndghakagogmcaa
