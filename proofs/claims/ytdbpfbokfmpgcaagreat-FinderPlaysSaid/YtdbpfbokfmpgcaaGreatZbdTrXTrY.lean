/-
TrX: walk of any tree; each; a handle; there, found.
TrY: the map of a tree, as a list; a tree as a list.
-/
import Derived.Test.YtdbpfbokfmpgcaaGreatZbcTrW
import Derived.Test.YtdbpfbokfmpgcaaGreatZaaMemIterTreeAHeldGrowIter
import Derived.Test.YtdbpfbokfmpgcaaGreatZauTreeCTreeDTrMTreeBaTreeE
import Derived.Shelf.Abstract
import Derived.Maps.OwnSet
set_option linter.unusedVariables false
set_option linter.unusedSimpArgs false
set_option maxHeartbeats 16000000
set_option maxRecDepth 100000
attribute [local go_sem] Go.Oper.semAt_some
namespace Go.Proofs.YtdbpfbokfmpgcaaGreat
theorem ZBM {p : Prop} (h : p := by with_reducible assumption) : p := h
theorem ZBW {p : Prop} (h : p := by simp [Value.oneCell']) : p := h
theorem ZM {p : Prop} (h : p := by
 go_simp
 refine hK _ _ (cN1 _) ?_
 clear hK
 refine anyHeld_one 6 ZBJ rfl ZBR (fun K hK => ?_)
 refine oper_append_own (.tmp 16) (.tmp 21) 45 ZBR w.heap.size 35 i0 _ 1 4 Tryz.underlying45 hi0 hz0 hz1' hz2 rfl ZBN (.slice a pre.length c') pre.length (u32s (idsOf pre)) ZBR (HO.out.alloc (.cells #[.int .u32 (x.2.1 : Int)] 35)) ⟨W.heap.size, 0, none⟩ 1 1 [.int .u32 (x.2.1 : Int)] ZBR rfl (by exact Mem.news_new W _ [_]) ZBW ZAx Z8 (by have := HB.out.size; simp; omega) ?_
 intro v' w1 hown hgrow hat
 obtain ⟨g', cap', rfl⟩ := ownsRow_succ hown
 obtain ⟨h51, S', g1, g2, g3⟩ := RowI.grow ZBN H5.out HO.out HB.out HS.out (((Keeps.refl _ W).alloc (.cells #[.int .u32 (x.2.1 : Int)] 35)).drew) hown hgrow hat Z8
 have hN1 := (HN.out.alloc (.cells #[.int .u32 (x.2.1 : Int)] 35)).drew.grown hgrow (own_ne HO.out HN.out ZBN)
 have f51 := h51.frozen 0
 have c51 := h51.cell 0
 simp only [List.getElem?_cons_zero] at c51
 have cN2 : w1.cell? ⟨x.1, 0, none⟩ = some (.int .u32 (x.2.1 : Int)) := hN1.cell 0
 have cN3 : (w1.setCell ⟨w.heap.size + 1, 0, none⟩ (.slice (some ⟨g', 0, none⟩) (pre.length + 1) cap')).cell? ⟨x.1, 0, none⟩ = some (.int .u32 (x.2.1 : Int)) := (hN1.far (p := ⟨w.heap.size + 1, 0, none⟩) (Ne.symm hne) _).cell 0
 have G := Lib.hid (And.intro g1 (And.intro g2 g3))
 clear g1 g2 g3 hown hgrow hat h51 hN1
 refine hK _ _ cN2 ?_
 clear hK
 simp only [Act.put, List.getElem_toArray, List.getElem_cons_succ, List.getElem_cons_zero, List.setIfInBounds_toArray, List.set_cons_zero, List.set_cons_succ]
 refine anyHeld_one 7 ZBJ rfl ZBR (fun K hK => ?_)
 go_simp
 refine hK _ _ cN3 ?_
 clear hK
 refine anyHeld_done ZBJ ?_ _
 gi_wp2
 exact ⟨S', G.out.1, G.out.2.1, by unfold FoundI; rw [idsOf_snoc, List.length_append]; exact G.out.2.2⟩) : p := h
open Go.RowKit Go.Shelf
namespace Tree
open Mem BT
theorem walk_t (c : Bx) (lp : Nat) (ys : List (Nat × Nat × Bx)) (J Jx : List (Nat × Nat × Bx) → (Nat → Prop) → World → Prop) (B0 : Nat) (hJ : Stab B0 J)
 (hY : ∀ pre x rest S1 W1, ys = pre ++ x :: rest → J pre S1 W1 → Inb S1 W1 → YieldAt Fence.wide 7 Tryz.prog lp (elEnc x) W1 (RoundEnd J Jx (pre ++ [x]) S1 W1)) :
 ∀ (t : BT) (pre post : List (Nat × Nat × Bx)) (S : Nat → Prop) (W : World), Ok t → ys = pre ++ hits c t ++ post → IsT W t → (∀ x ∈ blocks t, ¬ S x) → Inb S W → B0 ≤ W.heap.size → J pre S W →
  CallsIn Fence.wide 8 Tryz.prog 170 #[.pointer (ptr t), .agg #[.int .i32 c.x0, .int .i32 c.y0, .int .i32 c.x1, .int .i32 c.y1], .func (.yield lp) #[] #[]] W (WalkEnd J Jx ys (pre ++ hits c t) S W)
 | nil, pre, post, S, W, _, hys, _, _, hin, hB, hj => by
  refine (callsIn_wide.2 (walk_nil c lp W)).mono ?_
  rintro e W' ⟨rfl, hk⟩
  exact ⟨S, Foot.same (hk.mono (fun _ _ h => h.elim)), hin.mono hk.size, .inl ⟨rfl, by simpa [hits, nodes] using hJ pre S (fun _ => False) _ _ hj hin hk (fun _ _ h => h) (fun _ h => h.elim)⟩⟩
 | node b id bx al d l r, pre, post, S, W, hO, hys, hT, hd, hin, hB, hj => by
  cases hm : al.meet c with
  | false =>
   refine (callsIn_wide.2 (walk_pass c lp b id bx al _ _ d W hT.1 hm)).mono ?_
   rintro e W' ⟨rfl, hk⟩
   exact ⟨S, Foot.same (hk.mono (fun _ _ h => h.elim)), hin.mono hk.size, .inl ⟨rfl, by simpa [hits_pass hO hm] using hJ pre S (fun _ => False) _ _ hj hin hk (fun _ _ h => h) (fun _ h => h.elim)⟩⟩
  | true =>
   exact walk_node c lp ys J Jx B0 hJ hY b id bx al d l r hm (fun pre post S W h1 => walk_t c lp ys J Jx B0 hJ hY l pre post S W hO.2.2.2.2.2.1 h1) (fun pre post S W h1 => walk_t c lp ys J Jx B0 hJ hY r pre post S W hO.2.2.2.2.2.2 h1) pre post S W hys hT hd hin hB hj
theorem each1_gives (n B1 B2 : Nat) (t : BT) (c : Bx) (W : World) (h1 : Blk W B1 85 [.pointer (ptr t)]) (h2 : Blk W B2 39 [.int .i32 c.x0, .int .i32 c.y0, .int .i32 c.x1, .int .i32 c.y1])
 (hO : Ok t) (hT : IsT W t) :
 Gives Tryz.prog n 169 #[.pointer (some ⟨B1, 0, none⟩), .pointer (some ⟨B2, 0, none⟩)] elEnc (hits c t) W (fun S => ∀ x ∈ blocks t, ¬ S x) := by
 refine Gives.any (n := 8) ?_
 intro l J Jx S hA hJ hJx hin hY h0
 have c1 := h1.cell
 have c2 := h2.cell
 have HW := Lib.hid (walk_t c l (hits c t) J Jx W.heap.size hJ hY t [] [] S W hO ZA7 hT hA hin (Nat.le_refl _) h0)
 refine callsIn_of_wp Tryz.func169 rfl trivial ?_ rfl
 simp only [Tryz.ntmps169, List.size_toArray, List.length_cons, List.length_nil, Nat.reduceAdd, Nat.reduceSub, Array.replicate_succ, Array.replicate_zero, List.push_toArray, List.append_toArray, List.nil_append, List.cons_append]
 clear hJ hJx hY h0 hT hA hO
 gi_wp2_with (refine ⟨trivial, ?_⟩; gi_at_call 170; refine (callsIn_wide.2 (callsIn_wide.1 HW.out)).mono ?_; rintro e W' ⟨S', hf, hin', hres⟩; obtain ⟨v, rfl, hr⟩ : ∃ v, e = .returned v ∧ (J (hits c t) S' W' ∨ ∃ p, p <+: hits c t ∧ Jx p S' W') := (by rcases hres with ⟨rfl, h⟩ | ⟨rfl, h⟩; exact ⟨_, rfl, .inl (by simpa using h)⟩; exact ⟨_, rfl, .inr h⟩))
 go_end0
 exact ⟨⟨_, rfl⟩, S', hf, hin', hr⟩
theorem each_any (t : Option Addr) (x0 y0 x1 y1 : Int) (w : World) :
 Calls Tryz.prog 165 #[.pointer t, .agg #[.int .i32 x0, .int .i32 y0, .int .i32 x1, .int .i32 y1]] w fun e w' => e = .returned (.func (.func 169) #[] #[.pointer (some ⟨w.heap.size, 0, none⟩), .pointer (some ⟨w.heap.size + 1, 0, none⟩)]) ∧
  (w.alloc (.cells #[.pointer t] 85)).alloc (.cells #[.int .i32 x0, .int .i32 y0, .int .i32 x1, .int .i32 y1] 39) = w' := by
 go_enter Tryz.func165, Tryz.ntmps165
 go_wp2
 go_ret
 exact ⟨ZA7, rfl⟩
structure Hd (w : World) (T r : Nat) (t : BT) : Prop where
 blk : Blk w T 87 [.pointer (ptr t), .map (some r)]
 ist : IsT w t
 ok : Ok t
 nodup : (blocks t).Nodup
theorem Hd.kd {w w' : World} {T : Nat} {r : Nat} {t : BT} (h : Hd w T r t) (k : Keeps (fun _ => False) w w') : Hd w' T r t := ⟨h.blk.keeps k (fun h => h), h.ist.kd k, h.ok, h.nodup⟩
theorem neq_map (r : Nat) (W : World) : (binOp .neq 60 (.map (some r)) (.map none)).run Tryz.prog W = .ok (.bool true) W := by kernel_rfl
theorem there_yes {w : World} {T : Nat} {r : Nat} {p : Option Addr} (h : Blk w T 87 [.pointer p, .map (some r)]) : Calls Tryz.prog 157 #[.pointer (some ⟨T, 0, none⟩)] w fun e w' => e = .returned (.bool true) ∧ w = w' := by
 have hm := neq_map r
 have cb := h.cell
 go_enter Tryz.func157, Tryz.ntmps157
 go_wp2
 go_ret
 exact ⟨rfl, rfl⟩
theorem node_at {w : World} : ∀ {t : BT}, IsT w t → ∀ p ∈ nodes t, ∃ al pl pr d, Blk w p.1 201 (ncells p.2.1 p.2.2 al pl pr d)
 | nil, _, p, hp => by simp [nodes] at hp
 | node b id bx al d l r, h, p, hp => by
  simp only [nodes, List.mem_append, List.mem_cons] at hp
  rcases hp with hp | rfl | hp
  ·exact node_at h.2.1 p hp
  ·exact ⟨_, _, _, _, h.1⟩
  ·exact node_at h.2.2 p hp
def idsOf (l : List (Nat × Nat × Bx)) : List Nat := l.map (·.2.1)
theorem idsOf_snoc (pre : List (Nat × Nat × Bx)) (x : Nat × Nat × Bx) : u32s (idsOf (pre ++ [x])) = u32s (idsOf pre) ++ [.int .u32 (x.2.1 : Int)] := by simp [u32s, idsOf]
noncomputable def foundB : Code := (rbods (Tryz.f161.body.getD .skip)).getD 0 .skip
def FoundI (w : World) (pre : List (Nat × Nat × Bx)) (S : Nat → Prop) (W : World) : Prop := RowI 35 45 1 w (w.heap.size + 1) pre.length (u32s (idsOf pre)) S W
theorem found_body (l T : Nat) (t : BT) (c : Bx) (w : World) (hT : IsT w t) (hlen : (hits c t).length ≤ 1000000) 
 (pre : List (Nat × Nat × Bx)) (x : Nat × Nat × Bx) (rest : List (Nat × Nat × Bx)) (S : Nat → Prop) (W : World) (hxs : hits c t = pre ++ x :: rest) (hI : FoundI w pre S W) (hin : Inb S W) :
 foundB.wpIn (Fence.wide.inRound l) 7 Tryz.prog (Mem.Left (FoundI w) (fun _ _ _ _ => False) (pre ++ [x]) S W) ⟨#[.pointer (some ⟨T, 0, none⟩), .agg #[.int .i32 c.x0, .int .i32 c.y0, .int .i32 c.x1, .int .i32 c.y1], undef, .pointer (some ⟨w.heap.size, 0, none⟩), .slice none 0 0, .pointer (some ⟨w.heap.size + 1, 0, none⟩), .pointer (some ⟨x.1, 0, none⟩), .pointer (some ⟨T, 0, none⟩), .bool true, .pointer (some ⟨T, 0, none⟩), .pointer (some ⟨T, 0, none⟩), .pointer (some ⟨T, 0, none⟩), .pointer (ptr t), .agg #[.int .i32 c.x0, .int .i32 c.y0, .int .i32 c.x1, .int .i32 c.y1], .func (.func 169) #[] #[.pointer (some ⟨w.heap.size + 1 + 1, 0, none⟩), .pointer (some ⟨w.heap.size + 1 + 1 + 1, 0, none⟩)], .pointer (some ⟨x.1, 0, none⟩), undef, undef, undef, undef, undef, undef, undef, undef], []⟩ W := by
 obtain ⟨a, c', h5, hO, hB, hS⟩ := hI
 have hx := List.mem_filter.1 (show x ∈ hits c t by rw [hxs]; simp)
 obtain ⟨al, pl, pr, d, hN⟩ := node_at hT x hx.1
 have hNW := hN.below hB hN.lt
 have hne : (w.heap.size + 1) ≠ x.1 := fun e => by have := hN.lt; omega
 have cN : W.drew.cell? ⟨x.1, 0, none⟩ = some (.int .u32 (x.2.1 : Int)) := hNW.cell 0
 have cN1 : ∀ o, (W.alloc o).drew.cell? ⟨x.1, 0, none⟩ = some (.int .u32 (x.2.1 : Int)) := fun o => (hNW.alloc o).cell 0
 have c5 : W.drew.cell? ⟨w.heap.size + 1, 0, none⟩ = some (.slice a pre.length c') := h5.cell 0
 have c51 : ∀ o, (W.alloc o).drew.cell? ⟨w.heap.size + 1, 0, none⟩ = some (.slice a pre.length c') := fun o => (h5.alloc o).cell 0
 obtain ⟨i0, hi0, hz0, hz1', hz2⟩ := info_parts u32Info
 have hpl : pre.length + 1 ≤ 1000000 := by rw [hxs] at hlen; simp at hlen; omega
 have HT := Lib.hid hT; clear hT hN
 have H5 := Lib.hid h5; clear h5
 have HO := Lib.hid hO; clear hO
 have HB := Lib.hid hB; clear hB
 have HS := Lib.hid hS; clear hS
 have HN := Lib.hid hNW; clear hNW
 conv => arg 4; whnf
 gi_wp2
 refine region_heldIn (fun W' => W'.cell? ⟨x.1, 0, none⟩ = some (.int .u32 (x.2.1 : Int))) ZBJ ?_
 (refine anyHeld_take 1 (v := ?_) ZBJ rfl ZBJ ZBJ ZBJ (fun _ _ _ h => h) ⟨Or.inl ⟨ZBR, ?_⟩, fun _ _ _ => trivial⟩ ZBM ?_; rotate_left; (focus (rintro w q1; go_simp; try with_reducible rfl))); simp only [Act.put, List.getElem_toArray, List.getElem_cons_succ, List.getElem_cons_zero, List.setIfInBounds_toArray, List.set_cons_zero, List.set_cons_succ]
 (refine anyHeld_take 2 (v := ?_) ZBJ rfl ZBJ ZBJ ZBJ (fun _ _ _ h => h) ⟨Or.inl ⟨ZBR, ?_⟩, fun _ _ _ => trivial⟩ ZBM ?_; rotate_left; (focus (rintro w q1; go_simp; try with_reducible rfl))); simp only [Act.put, List.getElem_toArray, List.getElem_cons_succ, List.getElem_cons_zero, List.setIfInBounds_toArray, List.set_cons_zero, List.set_cons_succ]
 (refine anyHeld_take 3 (v := ?_) ZBJ rfl ZBJ ZBJ ZBJ (fun _ _ _ h => h) ⟨Or.inl ⟨ZBR, ?_⟩, fun _ _ _ => trivial⟩ ZBM ?_; rotate_left; (focus (rintro w q1; go_simp; try with_reducible rfl))); simp only [Act.put, List.getElem_toArray, List.getElem_cons_succ, List.getElem_cons_zero, List.setIfInBounds_toArray, List.set_cons_zero, List.set_cons_succ]
 (refine anyHeld_take 4 (v := ?_) ZBJ rfl ZBJ ZBJ ZBJ (fun _ _ _ h => h) ⟨Or.inl ⟨ZBR, ?_⟩, fun _ _ _ => trivial⟩ ZBM ?_; rotate_left; (focus (rintro w q1; go_simp; try with_reducible rfl))); simp only [Act.put, List.getElem_toArray, List.getElem_cons_succ, List.getElem_cons_zero, List.setIfInBounds_toArray, List.set_cons_zero, List.set_cons_succ]
 refine anyHeld_two 0 5 ZBJ rfl ZBR rfl ZBR (fun K hK => ?_) (fun K hK => ?_)
 ·go_simp
  refine hK _ _ cN ?_
  clear hK
  refine anyHeld_one 5 ZBJ rfl ZBR (fun K hK => ?_)
  exact ZM
 ·go_simp
  refine hK _ _ (cN1 _) ?_
  clear hK
  refine anyHeld_one 0 ZBJ rfl ZBR (fun K hK => ?_)
  exact ZM
theorem found_t (T r : Nat) (t : BT) (c : Bx) (w : World) (h : Hd w T r t) (hlen : (hits c t).length ≤ 1000000) :
 Calls Tryz.prog 161 #[.pointer (some ⟨T, 0, none⟩), .agg #[.int .i32 c.x0, .int .i32 c.y0, .int .i32 c.x1, .int .i32 c.y1]] w (Fresh w (idsOf (hits c t))) := by
 refine (callsIn_wide (n := 9)).1 ?_
 refine callsIn_of_wp_marks Tryz.func161 rfl trivial ?_ rfl
 simp only [Tryz.ntmps161, List.size_toArray, List.length_cons, List.length_nil, Nat.reduceAdd, Nat.reduceSub, Array.replicate_succ, Array.replicate_zero, List.push_toArray, List.append_toArray, List.nil_append, List.cons_append]
 have k1 : Keeps (fun _ => False) w ((w.alloc (.cells #[.int .i32 c.x0, .int .i32 c.y0, .int .i32 c.x1, .int .i32 c.y1] 39)).alloc (.cells #[.slice none 0 0] 45)) := ((Keeps.refl _ w).alloc _).alloc _
 have hT1 := (h.kd k1).blk
 have cT := hT1.drew.cell
 have HTh := Lib.hid (there_yes hT1)
 have H := Lib.hid h
 clear hT1
 gi_wp2_with (refine ⟨trivial, ?_⟩; gi_at_call 157; refine (callsIn_wide.2 HTh.out).mono ?_; rintro e w1 ⟨rfl, rfl⟩)
 refine wpIn_wide.2 (wp_region_noPanic ?_)
 go_region_with (go_at_call 165; refine (each_any _ _ _ _ _ _).mono ?_; rintro e w2 ⟨rfl, rfl⟩)
 all_goals
  refine NoPanic.normal ?_
  gi_wp2
  have hz1 : ((((w.alloc (.cells #[.int .i32 c.x0, .int .i32 c.y0, .int .i32 c.x1, .int .i32 c.y1] 39)).alloc (.cells #[.slice none 0 0] 45)).alloc (.cells #[.pointer (ptr t)] 85)).alloc (.cells #[.int .i32 c.x0, .int .i32 c.y0, .int .i32 c.x1, .int .i32 c.y1] 39)).drew.heap.size = w.heap.size + 1 + 1 + 1 + 1 := by simp
  have k4 := ((k1.alloc (.cells #[.pointer (ptr t)] 85)).alloc (.cells #[.int .i32 c.x0, .int .i32 c.y0, .int .i32 c.x1, .int .i32 c.y1] 39)).drew
  have b1 := (Blk.new ((w.alloc (.cells #[.int .i32 c.x0, .int .i32 c.y0, .int .i32 c.x1, .int .i32 c.y1] 39)).alloc (.cells #[.slice none 0 0] 45)) 85 [.pointer (ptr t)]).alloc (.cells #[.int .i32 c.x0, .int .i32 c.y0, .int .i32 c.x1, .int .i32 c.y1] 39)
  have b2 := Blk.new (((w.alloc (.cells #[.int .i32 c.x0, .int .i32 c.y0, .int .i32 c.x1, .int .i32 c.y1] 39)).alloc (.cells #[.slice none 0 0] 45)).alloc (.cells #[.pointer (ptr t)] 85)) 39 [.int .i32 c.x0, .int .i32 c.y0, .int .i32 c.x1, .int .i32 c.y1]
  have b3 := ((Blk.new (w.alloc (.cells #[.int .i32 c.x0, .int .i32 c.y0, .int .i32 c.x1, .int .i32 c.y1] 39)) 45 [.slice none 0 0]).alloc (.cells #[.pointer (ptr t)] 85)).alloc (.cells #[.int .i32 c.x0, .int .i32 c.y0, .int .i32 c.x1, .int .i32 c.y1] 39)
  simp only [World.size_alloc] at b1 b2 b3
  obtain ⟨wr, hwr⟩ := ZBD (((((w.alloc (.cells #[.int .i32 c.x0, .int .i32 c.y0, .int .i32 c.x1, .int .i32 c.y1] 39)).alloc (.cells #[.slice none 0 0] 45)).alloc (.cells #[.pointer (ptr t)] 85)).alloc (.cells #[.int .i32 c.x0, .int .i32 c.y0, .int .i32 c.x1, .int .i32 c.y1] 39)).drew)
  have e1 : Blk wr (w.heap.size + 1 + 1) 85 [.pointer (ptr t)] := hwr ▸ b1
  have e2 : Blk wr (w.heap.size + 1 + 1 + 1) 39 [.int .i32 c.x0, .int .i32 c.y0, .int .i32 c.x1, .int .i32 c.y1] := hwr ▸ b2
  have e3 : Blk wr (w.heap.size + 1) 45 [.slice none 0 0] := hwr ▸ b3
  have k5 : Keeps (fun _ => False) w wr := hwr ▸ k4
  have hz2 : wr.heap.size = w.heap.size + 1 + 1 + 1 + 1 := hwr ▸ hz1
  rw [← hwr]
  clear b1 b2 b3 k4 hz1 hwr k1 cT HTh
  refine wpIn_range (gf := 169) (lb := #[.pointer (some ⟨w.heap.size + 1 + 1, 0, none⟩), .pointer (some ⟨w.heap.size + 1 + 1 + 1, 0, none⟩)]) (encs := fun x : Nat × Nat × Bx => #[.pointer (some ⟨x.1, 0, none⟩)]) (xs := hits c t) (A := fun S => ∀ x ∈ blocks t, ¬ S x) rfl (enters_of Tryz.func169 ZBJ rfl)
   (fun W1 hk => each1_gives 8 _ _ t c W1 (e1.keeps hk (fun h => h)) (e2.keeps hk (fun h => h)) H.out.ok (H.out.ist.kd (k5.trans hk))) (fun _ => rfl)
   (FoundI w) (fun _ _ _ _ => False) (RowI.stab _ _ Z8) (fun _ _ _ _ _ _ h => h.elim)
   (fun k => k = w.heap.size + 1) (fun k hk => by rw [hk]; omega) ⟨none, 0, e3, World.ownsRow_nil _ _ _ _, k5.below (Nat.le_refl _) (fun _ _ h => h), fun k => by simp [Value.ownBlock]⟩
   (fun S hS x hx h => by have := H.out.ist.lt x hx; rcases hS x h with h | h <;> omega)
   (WithAct (FoundI w) (fun x => ⟨#[.pointer (some ⟨T, 0, none⟩), .agg #[.int .i32 c.x0, .int .i32 c.y0, .int .i32 c.x1, .int .i32 c.y1], undef, .pointer (some ⟨w.heap.size, 0, none⟩), .slice none 0 0, .pointer (some ⟨w.heap.size + 1, 0, none⟩), .pointer (some ⟨x.1, 0, none⟩), .pointer (some ⟨T, 0, none⟩), .bool true, .pointer (some ⟨T, 0, none⟩), .pointer (some ⟨T, 0, none⟩), .pointer (some ⟨T, 0, none⟩), .pointer (ptr t), .agg #[.int .i32 c.x0, .int .i32 c.y0, .int .i32 c.x1, .int .i32 c.y1], .func (.func 169) #[] #[.pointer (some ⟨w.heap.size + 1 + 1, 0, none⟩), .pointer (some ⟨w.heap.size + 1 + 1 + 1, 0, none⟩)], .pointer (some ⟨x.1, 0, none⟩), undef, undef, undef, undef, undef, undef, undef, undef], []⟩)) (WithAct.stab _ (RowI.stab _ _ Z8)) ?assign ?body ?done ?stop
  case assign =>
   intro l pre x rest S W hxs hI hin hlt
   gi_wp2
   exact ⟨S, Foot.refl _ _, hin, hI, rfl⟩
  case body =>
   rintro l pre x rest a1 S W hxs ⟨hI, ha⟩ hin hlt
   simp only at ha
   subst ha
   exact found_body l T t c w H.out.ist hlen pre x rest S W hxs hI hin
  case done =>
   rintro D S' W' hD hnD hf hin ⟨a, c', h5, hO, hB, hS⟩ hDD
   have c5 := h5.cell 0
   simp only [List.getElem?_cons_zero] at c5
   gi_wp2
   refine ⟨ZA7, .inl ⟨_, _, rfl, run_takeDeferred hDD, ?_⟩⟩
   refine ⟨_, results_tmp rfl _ _ _, Value.slice a (hits c t).length c', rfl, ?_, ?_⟩
   ·have := owns_keeps hO (keeps_putObj W' D (.deferred none)) (fun k hk e => hnD (e ▸ (hS k).2 (.inr hk)))
    simpa [idsOf] using this
   ·exact (Keeps.of_below0 hB).then (keeps_putObj W' D _) (fun i hi e => Z8)
  case stop =>
   intro D c0 pre S' W' hD hnD hf hin hpre hx
   exact hx.elim
end Tree
open Go.RowKit
open Go.Maps (Keyed has size IsMap Tidy)
namespace Tree
open Mem BT
def Bx.zero : Bx := ⟨0, 0, 0, 0⟩
def hasL (L : List (Nat × Bx)) (id : Nat) : Bool := L.any fun p => p.1 == id
def lookL : List (Nat × Bx) → Nat → Bx
 | [], _ => Bx.zero
 | p :: L, id => if p.1 = id then p.2 else lookL L id
theorem hasL_iff {L : List (Nat × Bx)} {id : Nat} : hasL L id = true ↔ ∃ p ∈ L, p.1 = id := by simp [hasL, List.any_eq_true]
theorem hasL_no {L : List (Nat × Bx)} {id : Nat} : hasL L id = false ↔ ∀ p ∈ L, p.1 ≠ id := by simp [hasL, List.any_eq_false]
theorem lookL_none {L : List (Nat × Bx)} {id : Nat} (h : hasL L id = false) : lookL L id = Bx.zero := by
 induction L with
 | nil => rfl
 | cons p L ih =>
  rw [hasL_no] at h
  rw [lookL, if_neg (h p ZA7), ih (hasL_no.2 fun q hq => h q (by simp [hq]))]
theorem hasL_put (id : Nat) (bx : Bx) (L : List (Nat × Bx)) (i : Nat) : hasL (putL id bx L) i = (decide (i = id) || hasL L i) := by
 rw [Bool.eq_iff_iff, Bool.or_eq_true, hasL_iff, hasL_iff, decide_eq_true_eq]
 constructor
 ·rintro ⟨p, hp, rfl⟩
  rcases (putL_mem id bx L p).1 hp with rfl | hp
  ·exact .inl rfl
  ·exact .inr ⟨p, hp, rfl⟩
 ·rintro (rfl | ⟨p, hp, rfl⟩)
  ·exact ⟨_, (putL_mem i bx L _).2 (.inl rfl), rfl⟩
  ·exact ⟨p, (putL_mem id bx L p).2 (.inr hp), rfl⟩
theorem lookL_put {id : Nat} {bx : Bx} : ∀ {L : List (Nat × Bx)}, hasL L id = false → ∀ i, lookL (putL id bx L) i = if i = id then bx else lookL L i
 | [], _, i => by
  simp only [putL, lookL]
  by_cases he : i = id
  ·rw [if_pos he.symm, if_pos he]
  ·rw [if_neg (Ne.symm he), if_neg he]
 | p :: L, h, i => by
  have h1 := hasL_no.1 h
  have h2 := h1 p ZA7
  have h3 : hasL L id = false := hasL_no.2 fun q hq => h1 q (by simp [hq])
  simp only [putL]
  split
  ·simp only [lookL]
   by_cases he : i = id
   ·rw [if_pos he.symm, if_pos he]
   ·rw [if_neg (Ne.symm he), if_neg he]
  ·simp only [lookL, lookL_put h3 i]
   split
   ·rename_i he; rw [if_neg Z8]
   ·rfl
theorem hasL_del (id : Nat) (L : List (Nat × Bx)) (i : Nat) : hasL (delL id L) i = (decide (i ≠ id) && hasL L i) := by
 rw [Bool.eq_iff_iff, Bool.and_eq_true, hasL_iff, hasL_iff, decide_eq_true_eq]
 unfold delL
 simp only [List.mem_filter, bne_iff_ne, ne_eq]
 constructor
 ·rintro ⟨p, ⟨hp, hn⟩, rfl⟩; exact ⟨hn, p, hp, rfl⟩
 ·rintro ⟨hn, p, hp, rfl⟩; exact ⟨p, ⟨hp, hn⟩, rfl⟩
theorem lookL_del {id : Nat} : ∀ {L : List (Nat × Bx)} {i : Nat}, i ≠ id → lookL (delL id L) i = lookL L i
 | [], i, _ => rfl
 | p :: L, i, h => by
  have ih := lookL_del (L := L) h
  unfold delL at ih ⊢
  rw [List.filter_cons]
  split
  ·rw [lookL, lookL, ih]
  ·rename_i hp
   simp only [bne_iff_ne, ne_eq, Decidable.not_not] at hp
   rw [ih, lookL, if_neg Z8]
theorem delL_length {id : Nat} : ∀ {L : List (Nat × Bx)}, Rising L → hasL L id = true → (delL id L).length + 1 = L.length
 | [], _, h => by simp [hasL] at h
 | p :: L, hr, h => by
  have hr' := List.pairwise_cons.1 hr
  by_cases hp : p.1 = id
  ·have hno : delL id L = L := delL_none id fun q hq => by have := hr'.1 q hq; omega
   have : delL id (p :: L) = L := by
    unfold delL at hno ⊢
    rw [List.filter_cons, if_neg (by simp [hp]), hno]
   rw [this]; rfl
  ·have hh : hasL L id = true := by
    rw [hasL_iff] at h ⊢
    obtain ⟨q, hq, hqe⟩ := h
    rcases List.mem_cons.1 hq with rfl | hq
    ·exact absurd hqe hp
    ·exact ⟨q, hq, hqe⟩
   have ih := delL_length hr'.2 hh
   have : delL id (p :: L) = p :: delL id L := by unfold delL; rw [List.filter_cons, if_pos (by simp [hp])]
   rw [this]; simp [ih]
def boxD (b : Bx) : DataW Unit := .agg [.lit (.int .i32 b.x0), .lit (.int .i32 b.y0), .lit (.int .i32 b.x1), .lit (.int .i32 b.y1)]
theorem boxD_inj {a b : Bx} (h : boxD a = boxD b) : a = b := by
 obtain ⟨a0, a1, a2, a3⟩ := a
 obtain ⟨b0, b1, b2, b3⟩ := b
 simp [boxD] at h
 obtain ⟨rfl, rfl, rfl, rfl⟩ := h
 rfl
def boxR : Value → Option (DataW Unit × List MemPlace)
 | .agg ⟨[.int .i32 a, .int .i32 b, .int .i32 c, .int .i32 d]⟩ => some (boxD ⟨a, b, c, d⟩, [])
 | _ => none
theorem boxR_mk (b : Bx) : boxR b.val = some (boxD b, []) := rfl
theorem boxR_inv {v : Value} {b : Bx} {ps : List MemPlace} (h : boxR v = some (boxD b, ps)) : v = b.val := by
 unfold boxR at h
 split at h
 ·simp only [Option.some.injEq, Prod.mk.injEq] at h
  have := boxD_inj h.1
  subst this
  rfl
 ·cases h
def kl (id : Nat) : Lit := .int .u32 (id : Int)
theorem kl_ne {a b : Nat} (h : a ≠ b) : kl a ≠ kl b := by
 intro e; simp [kl] at e; omega
theorem mlaw : Keyed Tryz.prog 35 := Go.Maps.int_keyed Tryz.underlying35
theorem mzero (W : World) : (zeroValue 39).run Tryz.prog W = .ok (Bx.val Bx.zero) W := by kernel_rfl
theorem mkey {id : Nat} (h : id < 4294967296) : keyOf Tryz.prog 35 (.int .u32 (id : Int)) = some (kl id) := Go.Maps.keyOf_int_mk Tryz.underlying35 (by
 have h1 : IntKind.u32.min = 0 := rfl
 have h2 : IntKind.u32.max = 4294967295 := rfl
 simp [Lit.wf]; omega)
def MapL (w : World) (r : Nat) (L : List (Nat × Bx)) : Prop :=
 ∃ D, w.ownsMap Tryz.prog 35 boxR r L.length D ∧ size D = L.length ∧ ∀ id, id < 4294967296 → has D (kl id) = hasL L id ∧ (hasL L id = true → ∀ z, D.atKey (kl id) z = boxD (lookL L id))
theorem MapL.look {w : World} {r : Nat} {L : List (Nat × Bx)} (h : MapL w r L) {id : Nat} (hid : id < 4294967296) :
 (Instr.lookup 60 (.map (some r)) (.int .u32 (id : Int)) true).run Tryz.prog w = .ok (.tuple #[(lookL L id).val, .bool (hasL L id)]) w := by
 obtain ⟨D, hown, hs, hD⟩ := h
 obtain ⟨v, ps, hrun, hv⟩ := hown.look_ok mlaw Tryz.underlying60 (mzero w) (boxR_mk Bx.zero) (mkey hid)
 rw [hrun, (hD id hid).1]
 cases hh : hasL L id with
 | true => rw [(hD id hid).2 hh] at hv; rw [boxR_inv hv]
 | false =>
  rw [Go.Maps.atKey_of_not_has ((hD id hid).1.trans hh)] at hv
  rw [boxR_inv hv, lookL_none hh]
theorem MapL.len {w : World} {r : Nat} {L : List (Nat × Bx)} (h : MapL w r L) (ty : TypeId) :
 (Builtin.len_ #[60] ty #[.map (some r)]).run Tryz.prog w = .ok (.int .i64 (L.length : Int)) w := by
 obtain ⟨D, hown, hs, hD⟩ := h
 rw [hown.len Tryz.underlying60 ty, hs]
theorem MapL.lt {w : World} {r : Nat} {L : List (Nat × Bx)} (h : MapL w r L) : r < w.heap.size := h.choose_spec.1.lt
theorem MapL.keeps {S : Nat → Prop} {w w' : World} {r : Nat} {L : List (Nat × Bx)} (h : MapL w r L) (k : Keeps S w w') (hn : ¬ S r) : MapL w' r L := by
 obtain ⟨D, hown, hs, hD⟩ := h
 have hlt := hown.lt
 obtain ⟨es, clock, hb, F, hsz, he⟩ := hown
 exact ⟨D, ⟨es, clock, (k.block r hlt hn).trans hb, F, hsz, he⟩, hs, hD⟩
theorem MapL.ne {w : World} {r b : Nat} {L : List (Nat × Bx)} {t : TypeId} {cs : List Value} (h : MapL w r L) (hb : Blk w b t cs) : b ≠ r := by
 rintro rfl
 obtain ⟨D, ⟨es, clock, hm, _⟩, _⟩ := h
 unfold Blk at hb
 rw [hb] at hm
 cases hm
theorem MapL.put {w : World} {r : Nat} {L : List (Nat × Bx)} (h : MapL w r L) {id : Nat} (hid : id < 4294967296) (bx : Bx) (hno : hasL L id = false) (hlen : L.length ≤ 1000000) :
 ∃ w', (Instr.mapUpdate 60 (.map (some r)) (.int .u32 (id : Int)) bx.val).run Tryz.prog w = .ok () w' ∧ MapL w' r (putL id bx L) ∧ Keeps (fun k => k = r) w w' := by
 obtain ⟨D, hown, hs, hD⟩ := h
 obtain ⟨w', hrun, hown', hturn⟩ := hown.store mlaw Tryz.underlying60 ZAx (mkey hid) (boxR_mk bx)
 have hhas : has D (kl id) = false := (hD id hid).1.trans hno
 refine ⟨w', hrun, ⟨_, hown'.mono (by rw [putL_length]; exact Nat.le_refl _), ?_, ?_⟩, (Keeps.of_grown hturn.grown).mono (fun k _ e => by injection e)⟩
 ·rw [Go.Maps.size_put (hown.tidy mlaw), hhas, putL_length, hs]; simp
 ·intro i hi
  rw [hasL_put, lookL_put hno]
  by_cases he : i = id
  ·subst he
   simp only [decide_true, Bool.true_or, if_true]
   have hkl : Go.WideAt.IsKeyLit (kl i) := trivial
   exact ⟨Go.Maps.has_put_same hown.isMap hkl _, fun _ z => Go.Maps.atKey_put_same hown.isMap hkl _ _⟩
  ·simp only [he, decide_false, Bool.false_or, if_false]
   rw [Go.Maps.has_put_other (kl_ne he)]
   refine ⟨(hD i hi).1, fun hh z => ?_⟩
   rw [Go.Maps.atKey_put_other (kl_ne he)]
   exact (hD i hi).2 hh z
theorem MapL.del {w : World} {r : Nat} {L : List (Nat × Bx)} (h : MapL w r L) {id : Nat} (hid : id < 4294967296) (hr : Rising L) (hyes : hasL L id = true) (ty : TypeId) :
 ∃ w', (Builtin.delete_ #[60, 35] ty #[.map (some r), .int .u32 (id : Int)]).run Tryz.prog w = .ok (.tuple #[]) w' ∧ MapL w' r (delL id L) ∧ Keeps (fun k => k = r) w w' := by
 obtain ⟨D, hown, hs, hD⟩ := h
 obtain ⟨w', hrun, hown', hturn⟩ := hown.drop mlaw Tryz.underlying60 (mkey hid) ty
 have hhas : has D (kl id) = true := (hD id hid).1.trans hyes
 have hsz : size (D.del (kl id)) = (delL id L).length := by
  have h1 := Go.Maps.size_del (k := kl id) (hown.tidy mlaw)
  rw [hhas] at h1
  have h2 := delL_length hr hyes
  simp only [if_true] at h1
  omega
 refine ⟨w', hrun, ⟨_, ?_, hsz, ?_⟩, (Keeps.of_grown hturn.grown).mono (fun k _ e => by injection e)⟩
 ·obtain ⟨es, clock, hb, F, h1, h2⟩ := hown'
  refine ⟨es, clock, hb, F, ?_, h2⟩
  rw [← hsz, h2]
  simp [size, length_sorted]
 ·intro i hi
  rw [hasL_del]
  by_cases he : i = id
  ·subst he
   simp only [ne_eq, not_true, decide_false, Bool.false_and, Bool.false_eq_true, false_implies, and_true]
   exact Go.Maps.has_del_same
  ·simp only [ne_eq, he, not_false_eq_true, decide_true, Bool.true_and]
   rw [Go.Maps.has_del_other (kl_ne he)]
   refine ⟨(hD i hi).1, fun hh z => ?_⟩
   rw [Go.Maps.atKey_del_other (kl_ne he), lookL_del he]
   exact (hD i hi).2 hh z
end Tree
end Go.Proofs.YtdbpfbokfmpgcaaGreat
