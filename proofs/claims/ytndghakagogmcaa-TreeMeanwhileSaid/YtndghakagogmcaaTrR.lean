/-
  TrR: All of a tree.
-/
import Derived.Test.YtndghakagogmcaaTrQ
namespace Go.Proofs.Ytndghakagogmcaa
open Go.RowKit Go.Shelf
set_option linter.unusedVariables false
set_option linter.unusedSimpArgs false
attribute [local go_sem] Oper.semAt_some
namespace Tree
open Mem BT
def prVals (x : Nat × Bx) : Array Value := #[.int .u32 (x.1 : Int), .agg #[.int .i32 x.2.x0, .int .i32 x.2.y0, .int .i32 x.2.x1, .int .i32 x.2.y1]]
def Bx.whole : Bx := ⟨-2147483648, -2147483648, 2147483647, 2147483647⟩
def pairCells (x : Nat × Bx) : List Value := [.int .u32 (x.1 : Int), .int .i32 x.2.x0, .int .i32 x.2.y0, .int .i32 x.2.x1, .int .i32 x.2.y1]
def allCells (l : List (Nat × Nat × Bx)) : List Value := (l.map (·.2)).flatMap pairCells
theorem allCells_snoc (pre : List (Nat × Nat × Bx)) (x : Nat × Nat × Bx) : allCells (pre ++ [x]) = allCells pre ++ pairCells x.2 := by simp [allCells]
theorem hits_whole {t : BT} (hO : Ok t) (h : ∀ p ∈ inord t, El32 p) : hits Bx.whole t = nodes t := by
  unfold hits
  rw [List.filter_eq_self]
  intro p hp
  have hm : p.2 ∈ inord t := by rw [← nodes_inord]; exact List.mem_map_of_mem hp
  have h1 := (covers hO).1 p.2 hm
  have h2 := h p.2 hm
  obtain ⟨_, h3, h4, h5, h6⟩ := h2
  simp only [Bx.right, Bool.and_eq_true, decide_eq_true_eq] at h1
  have e0 : Bx.whole.x0 = -2147483648 := rfl
  have e1 : Bx.whole.y0 = -2147483648 := rfl
  have e2 : Bx.whole.x1 = 2147483647 := rfl
  have e3 : Bx.whole.y1 = 2147483647 := rfl
  simp only [Bx.meet, Bx.right, Bool.and_eq_true, decide_eq_true_eq]
  omega
theorem pairInfo : (Try.prog.info? 119).map (fun i => (i.zero, i.size, i.bytes)) = some (some (.agg #[.int .u32 0, .int .i32 0, .int .i32 0, .int .i32 0, .int .i32 0]), 5, 20) := by kernel_rfl
noncomputable def allB : Code := (rbods (Try.f62.body.getD .skip)).getD 0 .skip
def AllI (w : World) (B5 : Nat) (pre : List (Nat × Nat × Bx)) (S : Nat → Prop) (W : World) : Prop := RowI 119 117 5 w B5 pre.length (allCells pre) S W
theorem fr46 {a : Act} {l : List (Nat × Value)} (h : Fr a 46 l) : ∃ u0 u1 u2 u3 u4 u5 u6 u7 u8 u9 u10 u11 u12 u13 u14 u15 u16 u17 u18 u19 u20 u21 u22 u23 u24 u25 u26 u27 u28 u29 u30 u31 u32 u33 u34 u35 u36 u37 u38 u39 u40 u41 u42 u43 u44 u45 : Value, a = ⟨#[u0, u1, u2, u3, u4, u5, u6, u7, u8, u9, u10, u11, u12, u13, u14, u15, u16, u17, u18, u19, u20, u21, u22, u23, u24, u25, u26, u27, u28, u29, u30, u31, u32, u33, u34, u35, u36, u37, u38, u39, u40, u41, u42, u43, u44, u45], []⟩ := by
  obtain ⟨⟨t⟩, d⟩ := a
  obtain ⟨h1, h2, _⟩ := h
  simp only [List.size_toArray] at h1 h2
  subst h2
  obtain ⟨u0, t0, rfl, k0⟩ := cons_of (n := 45) h1
  obtain ⟨u1, t1, rfl, k1⟩ := cons_of (n := 44) k0
  obtain ⟨u2, t2, rfl, k2⟩ := cons_of (n := 43) k1
  obtain ⟨u3, t3, rfl, k3⟩ := cons_of (n := 42) k2
  obtain ⟨u4, t4, rfl, k4⟩ := cons_of (n := 41) k3
  obtain ⟨u5, t5, rfl, k5⟩ := cons_of (n := 40) k4
  obtain ⟨u6, t6, rfl, k6⟩ := cons_of (n := 39) k5
  obtain ⟨u7, t7, rfl, k7⟩ := cons_of (n := 38) k6
  obtain ⟨u8, t8, rfl, k8⟩ := cons_of (n := 37) k7
  obtain ⟨u9, t9, rfl, k9⟩ := cons_of (n := 36) k8
  obtain ⟨u10, t10, rfl, k10⟩ := cons_of (n := 35) k9
  obtain ⟨u11, t11, rfl, k11⟩ := cons_of (n := 34) k10
  obtain ⟨u12, t12, rfl, k12⟩ := cons_of (n := 33) k11
  obtain ⟨u13, t13, rfl, k13⟩ := cons_of (n := 32) k12
  obtain ⟨u14, t14, rfl, k14⟩ := cons_of (n := 31) k13
  obtain ⟨u15, t15, rfl, k15⟩ := cons_of (n := 30) k14
  obtain ⟨u16, t16, rfl, k16⟩ := cons_of (n := 29) k15
  obtain ⟨u17, t17, rfl, k17⟩ := cons_of (n := 28) k16
  obtain ⟨u18, t18, rfl, k18⟩ := cons_of (n := 27) k17
  obtain ⟨u19, t19, rfl, k19⟩ := cons_of (n := 26) k18
  obtain ⟨u20, t20, rfl, k20⟩ := cons_of (n := 25) k19
  obtain ⟨u21, t21, rfl, k21⟩ := cons_of (n := 24) k20
  obtain ⟨u22, t22, rfl, k22⟩ := cons_of (n := 23) k21
  obtain ⟨u23, t23, rfl, k23⟩ := cons_of (n := 22) k22
  obtain ⟨u24, t24, rfl, k24⟩ := cons_of (n := 21) k23
  obtain ⟨u25, t25, rfl, k25⟩ := cons_of (n := 20) k24
  obtain ⟨u26, t26, rfl, k26⟩ := cons_of (n := 19) k25
  obtain ⟨u27, t27, rfl, k27⟩ := cons_of (n := 18) k26
  obtain ⟨u28, t28, rfl, k28⟩ := cons_of (n := 17) k27
  obtain ⟨u29, t29, rfl, k29⟩ := cons_of (n := 16) k28
  obtain ⟨u30, t30, rfl, k30⟩ := cons_of (n := 15) k29
  obtain ⟨u31, t31, rfl, k31⟩ := cons_of (n := 14) k30
  obtain ⟨u32, t32, rfl, k32⟩ := cons_of (n := 13) k31
  obtain ⟨u33, t33, rfl, k33⟩ := cons_of (n := 12) k32
  obtain ⟨u34, t34, rfl, k34⟩ := cons_of (n := 11) k33
  obtain ⟨u35, t35, rfl, k35⟩ := cons_of (n := 10) k34
  obtain ⟨u36, t36, rfl, k36⟩ := cons_of (n := 9) k35
  obtain ⟨u37, t37, rfl, k37⟩ := cons_of (n := 8) k36
  obtain ⟨u38, t38, rfl, k38⟩ := cons_of (n := 7) k37
  obtain ⟨u39, t39, rfl, k39⟩ := cons_of (n := 6) k38
  obtain ⟨u40, t40, rfl, k40⟩ := cons_of (n := 5) k39
  obtain ⟨u41, t41, rfl, k41⟩ := cons_of (n := 4) k40
  obtain ⟨u42, t42, rfl, k42⟩ := cons_of (n := 3) k41
  obtain ⟨u43, t43, rfl, k43⟩ := cons_of (n := 2) k42
  obtain ⟨u44, t44, rfl, k44⟩ := cons_of (n := 1) k43
  obtain ⟨u45, t45, rfl, k45⟩ := cons_of (n := 0) k44
  obtain rfl := List.eq_nil_of_length_eq_zero k45
  exact ⟨_, _, _, _, _, _, _, _, _, _, _, _, _, _, _, _, _, _, _, _, _, _, _, _, _, _, _, _, _, _, _, _, _, _, _, _, _, _, _, _, _, _, _, _, _, _, rfl⟩
set_option maxHeartbeats 4000000 in
set_option maxRecDepth 100000 in
theorem all_body (l T B5 : Nat) (t : BT) (w : World) (hT : IsT w t) (hB5 : w.heap.size ≤ B5) (hlen : (nodes t).length ≤ 1000000)
    (pre : List (Nat × Nat × Bx)) (x : Nat × Nat × Bx) (rest : List (Nat × Nat × Bx)) (S : Nat → Prop) (W : World) (hxs : nodes t = pre ++ x :: rest) (hI : AllI w B5 pre S W) (hin : Inb S W)
    (a1 : Act) (hF : Fr a1 46 [(4, .pointer (some ⟨B5, 0, none⟩)), (5, .pointer (some ⟨x.1, 0, none⟩))]) :
    allB.wpIn (Fence.wide.inRound l) 7 Try.prog (Mem.Left (AllI w B5) (fun _ _ _ _ => False) (pre ++ [x]) S W) a1 W := by
  obtain ⟨u0, u1, u2, u3, u4, u5, u6, u7, u8, u9, u10, u11, u12, u13, u14, u15, u16, u17, u18, u19, u20, u21, u22, u23, u24, u25, u26, u27, u28, u29, u30, u31, u32, u33, u34, u35, u36, u37, u38, u39, u40, u41, u42, u43, u44, u45, rfl⟩ := fr46 hF
  obtain rfl : u4 = .pointer (some ⟨B5, 0, none⟩) := hF.at_ 4 _ (by simp)
  obtain rfl : u5 = .pointer (some ⟨x.1, 0, none⟩) := hF.at_ 5 _ (by simp)
  clear hF
  obtain ⟨a, c', h5, hO, hB, hS⟩ := hI
  obtain ⟨al, pl, pr, d, hN⟩ := node_at hT x (by rw [hxs]; simp)
  have hNW := hN.below hB hN.lt
  have hne : B5 ≠ x.1 := fun e => by have := hN.lt; omega
  have cut : ∀ i : Nat, i < 5 → (ncells x.2.1 x.2.2 al pl pr d)[i]? = ([.int .u32 (x.2.1 : Int), .int .i32 x.2.2.x0, .int .i32 x.2.2.y0, .int .i32 x.2.2.x1, .int .i32 x.2.2.y1] : List Value)[i]? := fun i hi => by
    unfold ncells
    rcases i with _ | _ | _ | _ | _ | i
    all_goals first | rfl | omega
  have cN : (∀ i : Nat, i < 5 → W.drew.cell? ⟨x.1, i, none⟩ = ([.int .u32 (x.2.1 : Int), .int .i32 x.2.2.x0, .int .i32 x.2.2.y0, .int .i32 x.2.2.x1, .int .i32 x.2.2.y1] : List Value)[i]?) := fun i hi => (hNW.cell i).trans (cut i hi)
  have cN1 : ∀ o, (∀ i : Nat, i < 5 → (W.alloc o).drew.cell? ⟨x.1, i, none⟩ = ([.int .u32 (x.2.1 : Int), .int .i32 x.2.2.x0, .int .i32 x.2.2.y0, .int .i32 x.2.2.x1, .int .i32 x.2.2.y1] : List Value)[i]?) := fun o i hi => ((hNW.alloc o).cell i).trans (cut i hi)
  have c5 : W.drew.cell? ⟨B5, 0, none⟩ = some (.slice a pre.length c') := h5.cell 0
  have c51 : ∀ o, (W.alloc o).drew.cell? ⟨B5, 0, none⟩ = some (.slice a pre.length c') := fun o => (h5.alloc o).cell 0
  obtain ⟨i0, hi0, hz0, hz1', hz2⟩ := info_parts pairInfo
  have hpl : pre.length + 1 ≤ 1000000 := by rw [hxs] at hlen; simp at hlen; omega
  have HT := Lib.hid hT; clear hT hN
  have H5 := Lib.hid h5; clear h5
  have HO := Lib.hid hO; clear hO
  have HB := Lib.hid hB; clear hB
  have HS := Lib.hid hS; clear hS
  have HN := Lib.hid hNW; clear hNW
  have HC := Lib.hid cut; clear cut
  conv => arg 4; whnf
  gi_wp2
  refine region_heldIn (fun W' => (∀ i : Nat, i < 5 → W'.cell? ⟨x.1, i, none⟩ = ([.int .u32 (x.2.1 : Int), .int .i32 x.2.2.x0, .int .i32 x.2.2.y0, .int .i32 x.2.2.x1, .int .i32 x.2.2.y1] : List Value)[i]?)) (by kernel_rfl) ?_
  (refine anyHeld_take 1 (v := ?_) (by kernel_rfl) rfl (by kernel_rfl) (by kernel_rfl) (by kernel_rfl) (fun _ _ _ h => h) ⟨Or.inl ⟨by rfl, ?_⟩, fun _ _ _ => trivial⟩ (by with_reducible assumption) ?_; rotate_left; (focus (rintro w q1; go_simp; try with_reducible rfl))); simp only [Act.put, List.getElem_toArray, List.getElem_cons_succ, List.getElem_cons_zero, List.setIfInBounds_toArray, List.set_cons_zero, List.set_cons_succ]
  (refine anyHeld_take 2 (v := ?_) (by kernel_rfl) rfl (by kernel_rfl) (by kernel_rfl) (by kernel_rfl) (fun _ _ _ h => h) ⟨Or.inl ⟨by rfl, ?_⟩, fun _ _ _ => trivial⟩ (by with_reducible assumption) ?_; rotate_left; (focus (rintro w q1; go_simp; try with_reducible rfl))); simp only [Act.put, List.getElem_toArray, List.getElem_cons_succ, List.getElem_cons_zero, List.setIfInBounds_toArray, List.set_cons_zero, List.set_cons_succ]
  (refine anyHeld_take 3 (v := ?_) (by kernel_rfl) rfl (by kernel_rfl) (by kernel_rfl) (by kernel_rfl) (fun _ _ _ h => h) ⟨Or.inl ⟨by rfl, ?_⟩, fun _ _ _ => trivial⟩ (by with_reducible assumption) ?_; rotate_left; (focus (rintro w q1; go_simp; try with_reducible rfl))); simp only [Act.put, List.getElem_toArray, List.getElem_cons_succ, List.getElem_cons_zero, List.setIfInBounds_toArray, List.set_cons_zero, List.set_cons_succ]
  (refine anyHeld_take 4 (v := ?_) (by kernel_rfl) rfl (by kernel_rfl) (by kernel_rfl) (by kernel_rfl) (fun _ _ _ h => h) ⟨Or.inl ⟨by rfl, ?_⟩, fun _ _ _ => trivial⟩ (by with_reducible assumption) ?_; rotate_left; (focus (rintro w q1; go_simp; try with_reducible rfl))); simp only [Act.put, List.getElem_toArray, List.getElem_cons_succ, List.getElem_cons_zero, List.setIfInBounds_toArray, List.set_cons_zero, List.set_cons_succ]
  (refine anyHeld_take 5 (v := ?_) (by kernel_rfl) rfl (by kernel_rfl) (by kernel_rfl) (by kernel_rfl) (fun _ _ _ h => h) ⟨Or.inl ⟨by rfl, ?_⟩, fun _ _ _ => trivial⟩ (by with_reducible assumption) ?_; rotate_left; (focus (rintro w q1; go_simp; try with_reducible rfl))); simp only [Act.put, List.getElem_toArray, List.getElem_cons_succ, List.getElem_cons_zero, List.setIfInBounds_toArray, List.set_cons_zero, List.set_cons_succ]
  (refine anyHeld_take 6 (v := ?_) (by kernel_rfl) rfl (by kernel_rfl) (by kernel_rfl) (by kernel_rfl) (fun _ _ _ h => h) ⟨Or.inl ⟨by rfl, ?_⟩, fun _ _ _ => trivial⟩ (by with_reducible assumption) ?_; rotate_left; (focus (rintro w q1; go_simp; try with_reducible rfl))); simp only [Act.put, List.getElem_toArray, List.getElem_cons_succ, List.getElem_cons_zero, List.setIfInBounds_toArray, List.set_cons_zero, List.set_cons_succ]
  (refine anyHeld_take 7 (v := ?_) (by kernel_rfl) rfl (by kernel_rfl) (by kernel_rfl) (by kernel_rfl) (fun _ _ _ h => h) ⟨Or.inl ⟨by rfl, ?_⟩, fun _ _ _ => trivial⟩ (by with_reducible assumption) ?_; rotate_left; (focus (rintro w q1; go_simp; try with_reducible rfl))); simp only [Act.put, List.getElem_toArray, List.getElem_cons_succ, List.getElem_cons_zero, List.setIfInBounds_toArray, List.set_cons_zero, List.set_cons_succ]
  (refine anyHeld_take 8 (v := ?_) (by kernel_rfl) rfl (by kernel_rfl) (by kernel_rfl) (by kernel_rfl) (fun _ _ _ h => h) ⟨Or.inl ⟨by rfl, ?_⟩, fun _ _ _ => trivial⟩ (by with_reducible assumption) ?_; rotate_left; (focus (rintro w q1; go_simp; try with_reducible rfl))); simp only [Act.put, List.getElem_toArray, List.getElem_cons_succ, List.getElem_cons_zero, List.setIfInBounds_toArray, List.set_cons_zero, List.set_cons_succ]
  (refine anyHeld_take 9 (v := ?_) (by kernel_rfl) rfl (by kernel_rfl) (by kernel_rfl) (by kernel_rfl) (fun _ _ _ h => h) ⟨Or.inl ⟨by rfl, ?_⟩, fun _ _ _ => trivial⟩ (by with_reducible assumption) ?_; rotate_left; (focus (rintro w q1; go_simp; try with_reducible rfl))); simp only [Act.put, List.getElem_toArray, List.getElem_cons_succ, List.getElem_cons_zero, List.setIfInBounds_toArray, List.set_cons_zero, List.set_cons_succ]
  refine anyHeld_two 0 10 (by kernel_rfl) rfl (by rfl) rfl (by rfl) (fun K hK => ?_) (fun K hK => ?_)
  · go_simp
    refine hK _ _ cN ?_
    clear hK
    refine anyHeld_one 10 (by kernel_rfl) rfl (by rfl) (fun K hK => ?_)
    go_simp
    refine hK _ _ (cN1 _) ?_
    clear hK
    refine anyHeld_one 11 (by kernel_rfl) rfl (by rfl) (fun K hK => ?_)
    refine oper_append_own (.tmp 20) (.tmp 30) 117 (by rfl) w.heap.size 119 i0 _ 5 20 Try.underlying117 hi0 hz0 hz1' hz2 rfl (by decide) (.slice a pre.length c') pre.length (allCells pre) (by rfl) (HO.out.alloc (.cells #[.int .u32 (x.2.1 : Int), .int .i32 x.2.2.x0, .int .i32 x.2.2.y0, .int .i32 x.2.2.x1, .int .i32 x.2.2.y1] 119)) ⟨W.heap.size, 0, none⟩ 1 1 [.int .u32 (x.2.1 : Int), .int .i32 x.2.2.x0, .int .i32 x.2.2.y0, .int .i32 x.2.2.x1, .int .i32 x.2.2.y1] (by rfl) rfl (by exact Mem.news_new W _ [.int .u32 (x.2.1 : Int), .int .i32 x.2.2.x0, .int .i32 x.2.2.y0, .int .i32 x.2.2.x1, .int .i32 x.2.2.y1]) (by simp [Value.oneCell']) (by unfold maxLen; omega) (by omega) (by have := HB.out.size; simp; omega) ?_
    intro v' w1 hown hgrow hat
    obtain ⟨g', cap', rfl⟩ := ownsRow_succ hown
    obtain ⟨h51, S', g1, g2, g3⟩ := RowI.grow (by decide) H5.out HO.out HB.out HS.out (((Keeps.refl _ W).alloc (.cells #[.int .u32 (x.2.1 : Int), .int .i32 x.2.2.x0, .int .i32 x.2.2.y0, .int .i32 x.2.2.x1, .int .i32 x.2.2.y1] 119)).drew) hown hgrow hat hB5
    have hN1 := (HN.out.alloc (.cells #[.int .u32 (x.2.1 : Int), .int .i32 x.2.2.x0, .int .i32 x.2.2.y0, .int .i32 x.2.2.x1, .int .i32 x.2.2.y1] 119)).drew.grown hgrow (own_ne HO.out HN.out (by decide))
    have f51 := h51.frozen 0
    have c51 := h51.cell 0
    simp only [List.getElem?_cons_zero] at c51
    have cN2 : (∀ i : Nat, i < 5 → w1.cell? ⟨x.1, i, none⟩ = ([.int .u32 (x.2.1 : Int), .int .i32 x.2.2.x0, .int .i32 x.2.2.y0, .int .i32 x.2.2.x1, .int .i32 x.2.2.y1] : List Value)[i]?) := fun i hi => (hN1.cell i).trans (HC.out i hi)
    have cN3 : (∀ i : Nat, i < 5 → (w1.setCell ⟨B5, 0, none⟩ (.slice (some ⟨g', 0, none⟩) (pre.length + 1) cap')).cell? ⟨x.1, i, none⟩ = ([.int .u32 (x.2.1 : Int), .int .i32 x.2.2.x0, .int .i32 x.2.2.y0, .int .i32 x.2.2.x1, .int .i32 x.2.2.y1] : List Value)[i]?) := fun i hi => ((hN1.far (p := ⟨B5, 0, none⟩) (Ne.symm hne) _).cell i).trans (HC.out i hi)
    have G := Lib.hid (And.intro g1 (And.intro g2 g3))
    clear g1 g2 g3 hown hgrow hat h51 hN1
    refine hK _ _ cN2 ?_
    clear hK
    simp only [Act.put, List.getElem_toArray, List.getElem_cons_succ, List.getElem_cons_zero, List.setIfInBounds_toArray, List.set_cons_zero, List.set_cons_succ]
    refine anyHeld_one 12 (by kernel_rfl) rfl (by rfl) (fun K hK => ?_)
    go_simp
    refine hK _ _ cN3 ?_
    clear hK
    refine anyHeld_done (by kernel_rfl) ?_ _
    gi_wp2
    exact ⟨S', G.out.1, G.out.2.1, by unfold AllI; rw [allCells_snoc, List.length_append]; exact G.out.2.2⟩
  · go_simp
    refine hK _ _ (cN1 _) ?_
    clear hK
    refine anyHeld_one 0 (by kernel_rfl) rfl (by rfl) (fun K hK => ?_)
    go_simp
    refine hK _ _ (cN1 _) ?_
    clear hK
    refine anyHeld_one 11 (by kernel_rfl) rfl (by rfl) (fun K hK => ?_)
    refine oper_append_own (.tmp 20) (.tmp 30) 117 (by rfl) w.heap.size 119 i0 _ 5 20 Try.underlying117 hi0 hz0 hz1' hz2 rfl (by decide) (.slice a pre.length c') pre.length (allCells pre) (by rfl) (HO.out.alloc (.cells #[.int .u32 (x.2.1 : Int), .int .i32 x.2.2.x0, .int .i32 x.2.2.y0, .int .i32 x.2.2.x1, .int .i32 x.2.2.y1] 119)) ⟨W.heap.size, 0, none⟩ 1 1 [.int .u32 (x.2.1 : Int), .int .i32 x.2.2.x0, .int .i32 x.2.2.y0, .int .i32 x.2.2.x1, .int .i32 x.2.2.y1] (by rfl) rfl (by exact Mem.news_new W _ [.int .u32 (x.2.1 : Int), .int .i32 x.2.2.x0, .int .i32 x.2.2.y0, .int .i32 x.2.2.x1, .int .i32 x.2.2.y1]) (by simp [Value.oneCell']) (by unfold maxLen; omega) (by omega) (by have := HB.out.size; simp; omega) ?_
    intro v' w1 hown hgrow hat
    obtain ⟨g', cap', rfl⟩ := ownsRow_succ hown
    obtain ⟨h51, S', g1, g2, g3⟩ := RowI.grow (by decide) H5.out HO.out HB.out HS.out (((Keeps.refl _ W).alloc (.cells #[.int .u32 (x.2.1 : Int), .int .i32 x.2.2.x0, .int .i32 x.2.2.y0, .int .i32 x.2.2.x1, .int .i32 x.2.2.y1] 119)).drew) hown hgrow hat hB5
    have hN1 := (HN.out.alloc (.cells #[.int .u32 (x.2.1 : Int), .int .i32 x.2.2.x0, .int .i32 x.2.2.y0, .int .i32 x.2.2.x1, .int .i32 x.2.2.y1] 119)).drew.grown hgrow (own_ne HO.out HN.out (by decide))
    have f51 := h51.frozen 0
    have c51 := h51.cell 0
    simp only [List.getElem?_cons_zero] at c51
    have cN2 : (∀ i : Nat, i < 5 → w1.cell? ⟨x.1, i, none⟩ = ([.int .u32 (x.2.1 : Int), .int .i32 x.2.2.x0, .int .i32 x.2.2.y0, .int .i32 x.2.2.x1, .int .i32 x.2.2.y1] : List Value)[i]?) := fun i hi => (hN1.cell i).trans (HC.out i hi)
    have cN3 : (∀ i : Nat, i < 5 → (w1.setCell ⟨B5, 0, none⟩ (.slice (some ⟨g', 0, none⟩) (pre.length + 1) cap')).cell? ⟨x.1, i, none⟩ = ([.int .u32 (x.2.1 : Int), .int .i32 x.2.2.x0, .int .i32 x.2.2.y0, .int .i32 x.2.2.x1, .int .i32 x.2.2.y1] : List Value)[i]?) := fun i hi => ((hN1.far (p := ⟨B5, 0, none⟩) (Ne.symm hne) _).cell i).trans (HC.out i hi)
    have G := Lib.hid (And.intro g1 (And.intro g2 g3))
    clear g1 g2 g3 hown hgrow hat h51 hN1
    refine hK _ _ cN2 ?_
    clear hK
    simp only [Act.put, List.getElem_toArray, List.getElem_cons_succ, List.getElem_cons_zero, List.setIfInBounds_toArray, List.set_cons_zero, List.set_cons_succ]
    refine anyHeld_one 12 (by kernel_rfl) rfl (by rfl) (fun K hK => ?_)
    go_simp
    refine hK _ _ cN3 ?_
    clear hK
    refine anyHeld_done (by kernel_rfl) ?_ _
    gi_wp2
    exact ⟨S', G.out.1, G.out.2.1, by unfold AllI; rw [allCells_snoc, List.length_append]; exact G.out.2.2⟩
end Tree
end Go.Proofs.Ytndghakagogmcaa
