/-
TrW: walk.
-/
import Derived.Test.YtdbpfbokfmpgcaaGreatZbbTrETrFTrG
import Derived.Test.YtdbpfbokfmpgcaaGreatZauTreeCTreeDTrMTreeBaTreeE
import Derived.Test.YtdbpfbokfmpgcaaGreatZaaMemIterTreeAHeldGrowIter
set_option linter.unusedVariables false
set_option linter.unusedSimpArgs false
set_option maxHeartbeats 16000000
set_option maxRecDepth 100000
attribute [local go_sem] Go.Oper.semAt_some
namespace Go.Proofs.YtdbpfbokfmpgcaaGreat
theorem ZBR {p : Prop} (h : p := by rfl) : p := h
theorem ZY {p : Prop} (h : p := by
 rcases hres with ⟨rfl, hj9⟩ | ⟨rfl, p, hp, hx⟩
 ·have J9 := Lib.hid hj9; clear hj9
  refine hK _ _ hS9 ?_
  clear hK
  try simp only [Act.put, List.setIfInBounds_toArray, List.set_cons_zero, List.set_cons_succ]
  refine aT 29 ?_
  refine aT 30 ?_
  refine anyHeld_done ZBJ ?_ _
  gi_wp2
  go_ret
  exact ⟨S9, H9.out.2.2.2.2.2.1, H9.out.2.2.2.2.1, .inl ⟨rfl, by have := J9.out; (try rw [hsp']); simpa only [List.append_assoc] using this⟩⟩
 ·have HX := Lib.hid hx; clear hx
  refine hK _ _ hS9 ?_
  clear hK
  try simp only [Act.put, List.setIfInBounds_toArray, List.set_cons_zero, List.set_cons_succ]
  refine aT 29 ?_
  refine aT 30 ?_
  refine anyHeld_done ZBJ ?_ _
  gi_wp2
  go_ret
  exact ⟨S9, H9.out.2.2.2.2.2.1, H9.out.2.2.2.2.1, .inr ⟨rfl, p, hp, HX.out⟩⟩) : p := h
open Go.RowKit
namespace Tree
open Mem BT
def nodes : BT → List (Nat × Nat × Bx)
 | nil => []
 | node b id bx _ _ l r => nodes l ++ (b, id, bx) :: nodes r
def hits (c : Bx) (t : BT) : List (Nat × Nat × Bx) := (nodes t).filter (fun p => p.2.2.meet c)
def elEnc (p : Nat × Nat × Bx) : Array Value := #[.pointer (some ⟨p.1, 0, none⟩)]
theorem nodes_inord : ∀ t : BT, (nodes t).map (·.2) = inord t
 | nil => rfl
 | node b id bx _ _ l r => by simp [nodes, inord, nodes_inord l, nodes_inord r]
theorem hits_pass {b id : Nat} {bx al : Bx} {d : Int} {l r : BT} (h : Ok (node b id bx al d l r)) {c : Bx} (hm : al.meet c = false) : hits c (node b id bx al d l r) = [] := by
 have hp := passed h hm
 unfold hits
 rw [List.filter_eq_nil_iff]
 intro p hx
 rw [List.filter_eq_nil_iff] at hp
 exact hp p.2 (by rw [← nodes_inord]; exact List.mem_map_of_mem hx)
theorem hits_node (c : Bx) (b id : Nat) (bx al : Bx) (d : Int) (l r : BT) : hits c (node b id bx al d l r) = hits c l ++ (if bx.meet c then [(b, id, bx)] else []) ++ hits c r := by
 unfold hits
 simp only [nodes, List.filter_append, List.filter_cons]
 split <;> simp
def WalkEnd (J Jx : List (Nat × Nat × Bx) → (Nat → Prop) → World → Prop) (ys done : List (Nat × Nat × Bx)) (S : Nat → Prop) (W : World) (e : Ending) (W' : World) : Prop :=
 ∃ S', Foot S S' W W' ∧ Inb S' W' ∧ ((e = .returned (.bool true) ∧ J done S' W') ∨ (e = .returned (.bool false) ∧ ∃ p, p <+: ys ∧ Jx p S' W'))
theorem walk_nil (c : Bx) (lp : Nat) (w : World) : Calls Tryz.prog 170 #[.pointer none, .agg #[.int .i32 c.x0, .int .i32 c.y0, .int .i32 c.x1, .int .i32 c.y1], .func (.yield lp) #[] #[]] w (Gave (.bool true) w) := by
 go_enter Tryz.func170, Tryz.ntmps170
 go_wp2
 go_region
 go_wp2
 go_ret
 exact ⟨rfl, ((Keeps.refl _ w).alloc _).drew⟩
theorem walk_pass (c : Bx) (lp : Nat) (b id : Nat) (bx al : Bx) (pl pr : Option Addr) (d : Int) (w : World) (hB : Blk w b 201 (ncells id bx al pl pr d)) (hm : al.meet c = false) :
 Calls Tryz.prog 170 #[.pointer (some ⟨b, 0, none⟩), .agg #[.int .i32 c.x0, .int .i32 c.y0, .int .i32 c.x1, .int .i32 c.y1], .func (.yield lp) #[] #[]] w (Gave (.bool true) w) := by
 unfold ncells at hB
 have HM := Lib.hid (fun W => hm ▸ meet_any al c W)
 have hX := Blk.new w 39 [.int .i32 c.x0, .int .i32 c.y0, .int .i32 c.x1, .int .i32 c.y1]
 have hB1 := hB.alloc (.cells [.int .i32 c.x0, .int .i32 c.y0, .int .i32 c.x1, .int .i32 c.y1].toArray 39)
 have cX := hX.drew.cell
 have cB := hB1.drew.cell
 have HX := Lib.hid hX
 have HB := Lib.hid hB1
 clear hB hX hB1
 go_enter Tryz.func170, Tryz.ntmps170
 go_wp2
 go_region_held3 (fun W => (∀ i : Nat, W.cell? ⟨b, i, none⟩ = ([.int .u32 (id : Int), .int .i32 bx.x0, .int .i32 bx.y0, .int .i32 bx.x1, .int .i32 bx.y1, .int .i32 al.x0, .int .i32 al.y0, .int .i32 al.x1, .int .i32 al.y1, .pointer pl, .pointer pr, .int .i64 d] : List Value)[i]?) ∧ (∀ i : Nat, W.cell? ⟨w.heap.size, i, none⟩ = ([.int .i32 c.x0, .int .i32 c.y0, .int .i32 c.x1, .int .i32 c.y1] : List Value)[i]?)) (first | with_reducible assumption | exact ⟨cB, cX⟩) (first
  | (go_at_call 171; (with_reducible refine (HM.out _).mono ?_); rintro e w1 ⟨rfl, hk⟩; have HK := Lib.hid hk; have hS1 := And.intro (HB.out.drew.keeps hk (fun h => h)).cell (HX.out.drew.keeps hk (fun h => h)).cell))
 go_wp2
 go_ret
 exact ⟨rfl, (((Keeps.refl _ w).alloc _).drew).trans HK.out⟩
def WSt (t : BT) (bb : Nat) (c : Bx) (B0 : Nat) (S0 : Nat → Prop) (W0 : World) (S : Nat → Prop) (W : World) : Prop :=
 IsT W t ∧ Blk W bb 39 [.int .i32 c.x0, .int .i32 c.y0, .int .i32 c.x1, .int .i32 c.y1] ∧ (∀ x ∈ blocks t, ¬ S x) ∧ ¬ S bb ∧ Inb S W ∧ Foot S0 S W0 W ∧ B0 ≤ W.heap.size
theorem WSt.step {t : BT} {bb : Nat} {c : Bx} {B0 : Nat} {S0 S S' : Nat → Prop} {W0 W W' : World} (h : WSt t bb c B0 S0 W0 S W) (hf : Foot S S' W W') (hi : Inb S' W') : WSt t bb c B0 S0 W0 S' W' := by
 obtain ⟨h1, h2, h3, h4, h5, h6, h7⟩ := h
 refine ⟨h1.keeps hf.1 h3, h2.keeps hf.1 h4, fun x hx hs => ?_, fun hs => ?_, hi, h6.trans hf, Nat.le_trans h7 hf.1.size⟩
 ·rcases hf.2 x hs with h | h
  ·exact h3 x hx h
  ·have := h1.lt x hx; omega
 ·rcases hf.2 _ hs with h | h
  ·exact h4 h
  ·have := h2.lt; omega
theorem WSt.same {t : BT} {bb : Nat} {c : Bx} {B0 : Nat} {S0 S : Nat → Prop} {W0 W W' : World} (h : WSt t bb c B0 S0 W0 S W) (hk : Keeps (fun _ => False) W W') : WSt t bb c B0 S0 W0 S W' :=
 h.step (Foot.same (hk.mono (fun _ _ h => h.elim))) (h.2.2.2.2.1.mono hk.size)
section
variable {F : Fence} {n : Nat} {P : Program} {md : Region.Mode} {ops : Array Oper} {Q : Exit → Act → World → Prop} {S : World → Prop}
theorem aT (i : Nat) {oi : Oper} {v : Value} {fuel : Nat} {listed : Array Bool} {a a' : Act} {w : World} (h : anyHeld F n P md ops Q S fuel (listed.setIfInBounds i true) a' w) (h1 : noDefer ops = true := by kernel_rfl) (hi : ops[i]? = some oi := by rfl)
 (h2 : Region.noSelect ops = true := by kernel_rfl) (h3 : Region.free md ops listed i = true := by kernel_rfl) (h4 : (Region.ready md ops listed).contains i = true := by kernel_rfl) (hQ : ∀ c a w, Q (.panic c) (a.put oi.dst v) w → Q (.panic c) a w := by exact fun _ _ _ h => h)
 (hg : Region.wanted oi (yielded ops a.tmps) = true := by rfl) (hy : ∀ w, S w → (execOp a.eval oi).run P w = .ok (.value v) w := by (rintro w ⟨q1, q2⟩; go_simp; try with_reducible rfl)) (hf : ∀ w f, oi.about P w a.eval = some f → F.fn f := by exact fun _ _ _ => trivial) (hS : S w := by with_reducible assumption)
 (ha : a.put oi.dst v = a' := by (simp only [Act.put, List.getElem_toArray, List.getElem_cons_succ, List.getElem_cons_zero, List.setIfInBounds_toArray, List.set_cons_zero, List.set_cons_succ]; rfl)) : anyHeld F n P md ops Q S (fuel + 1) listed a w := anyHeld_take i h1 hi h2 h3 h4 hQ ⟨.inl ⟨hg, hy⟩, hf⟩ hS (ha ▸ h)
theorem aS (i : Nat) {oi : Oper} {fuel : Nat} {listed : Array Bool} {a a' : Act} {w : World} (h : anyHeld F n P md ops Q S fuel (listed.setIfInBounds i true) a' w) (h1 : noDefer ops = true := by kernel_rfl) (hi : ops[i]? = some oi := by rfl)
 (h2 : Region.noSelect ops = true := by kernel_rfl) (h3 : Region.free md ops listed i = true := by kernel_rfl) (h4 : (Region.ready md ops listed).contains i = true := by kernel_rfl) (hQ : ∀ c a w, Q (.panic c) (a.put oi.dst undef) w → Q (.panic c) a w := by exact fun _ _ _ h => h)
 (hg : Region.wanted oi (yielded ops a.tmps) = false := by rfl) (hf : ∀ w f, oi.about P w a.eval = some f → F.fn f := by exact fun _ _ _ => trivial) (hS : S w := by with_reducible assumption)
 (ha : a.put oi.dst undef = a' := by (simp only [Act.put, List.getElem_toArray, List.getElem_cons_succ, List.getElem_cons_zero, List.setIfInBounds_toArray, List.set_cons_zero, List.set_cons_succ]; rfl)) : anyHeld F n P md ops Q S (fuel + 1) listed a w := anyHeld_take i h1 hi h2 h3 h4 hQ ⟨.inr ⟨hg, rfl⟩, hf⟩ hS (ha ▸ h)
end
theorem walk_node (c : Bx) (lp : Nat) (ys : List (Nat × Nat × Bx)) (J Jx : List (Nat × Nat × Bx) → (Nat → Prop) → World → Prop) (B0 : Nat) (hJ : Stab B0 J)
 (hY : ∀ pre x rest S1 W1, ys = pre ++ x :: rest → J pre S1 W1 → Inb S1 W1 → YieldAt Fence.wide 7 Tryz.prog lp (elEnc x) W1 (RoundEnd J Jx (pre ++ [x]) S1 W1))
 (b id : Nat) (bx al : Bx) (d : Int) (l r : BT) (hm : al.meet c = true)
 (IL : ∀ pre post S W, ys = pre ++ hits c l ++ post → IsT W l → (∀ x ∈ blocks l, ¬ S x) → Inb S W → B0 ≤ W.heap.size → J pre S W → CallsIn Fence.wide 8 Tryz.prog 170 #[.pointer (ptr l), .agg #[.int .i32 c.x0, .int .i32 c.y0, .int .i32 c.x1, .int .i32 c.y1], .func (.yield lp) #[] #[]] W (WalkEnd J Jx ys (pre ++ hits c l) S W))
 (IR : ∀ pre post S W, ys = pre ++ hits c r ++ post → IsT W r → (∀ x ∈ blocks r, ¬ S x) → Inb S W → B0 ≤ W.heap.size → J pre S W → CallsIn Fence.wide 8 Tryz.prog 170 #[.pointer (ptr r), .agg #[.int .i32 c.x0, .int .i32 c.y0, .int .i32 c.x1, .int .i32 c.y1], .func (.yield lp) #[] #[]] W (WalkEnd J Jx ys (pre ++ hits c r) S W))
 (pre post : List (Nat × Nat × Bx)) (S : Nat → Prop) (W : World) (hys : ys = pre ++ hits c (node b id bx al d l r) ++ post) (hT : IsT W (node b id bx al d l r)) (hd : ∀ x ∈ blocks (node b id bx al d l r), ¬ S x) (hin : Inb S W) (hB0 : B0 ≤ W.heap.size) (hj : J pre S W) :
 CallsIn Fence.wide 8 Tryz.prog 170 #[.pointer (some ⟨b, 0, none⟩), .agg #[.int .i32 c.x0, .int .i32 c.y0, .int .i32 c.x1, .int .i32 c.y1], .func (.yield lp) #[] #[]] W (WalkEnd J Jx ys (pre ++ hits c (node b id bx al d l r)) S W) := by
 have hk0 := (Keeps.refl (fun _ => False) W).alloc (.cells #[.int .i32 c.x0, .int .i32 c.y0, .int .i32 c.x1, .int .i32 c.y1] 39)
 have hX := Blk.new W 39 [.int .i32 c.x0, .int .i32 c.y0, .int .i32 c.x1, .int .i32 c.y1]
 have h0 : WSt (node b id bx al d l r) W.heap.size c B0 S W S (W.alloc (.cells #[.int .i32 c.x0, .int .i32 c.y0, .int .i32 c.x1, .int .i32 c.y1] 39)) :=
  ⟨hT.kd hk0, hX, hd, fun h => by have := hin _ h; omega, hin.mono hk0.size, Foot.same (hk0.mono (fun _ _ h => h.elim)), ZBS⟩
 have j0 : J pre S (W.alloc (.cells #[.int .i32 c.x0, .int .i32 c.y0, .int .i32 c.x1, .int .i32 c.y1] 39)) := hJ pre S (fun _ => False) W _ hj hin hk0 (fun _ _ h => h) (fun _ h => h.elim)
 have HM := Lib.hid (fun W => hm ▸ meet_any al c W)
 have HMx := Lib.hid (fun W => meet_any bx c W)
 have cX := h0.2.1.drew.cell
 have cB := h0.1.1.drew.cell
 unfold ncells at cB
 have H0 := Lib.hid h0; clear h0
 have J0 := Lib.hid j0; clear j0
 have HJ := Lib.hid hJ; clear hJ
 have HY := Lib.hid hY; clear hY
 have IL := Lib.hid IL
 have IR := Lib.hid IR
 have HYS := Lib.hid hys
 clear hj hX hk0 hT hd hys
 refine callsIn_of_wp Tryz.func170 rfl trivial ?_ rfl
 simp only [Tryz.ntmps170, List.size_toArray, List.length_cons, List.length_nil, Nat.reduceAdd, Nat.reduceSub, Array.replicate_succ, Array.replicate_zero, List.push_toArray, List.append_toArray, List.nil_append, List.cons_append]
 gi_wp2
 refine wpIn_wide.2 ?_
 go_region_held3 (fun W' => (∀ i : Nat, W'.cell? ⟨b, i, none⟩ = ([.int .u32 (id : Int), .int .i32 bx.x0, .int .i32 bx.y0, .int .i32 bx.x1, .int .i32 bx.y1, .int .i32 al.x0, .int .i32 al.y0, .int .i32 al.x1, .int .i32 al.y1, .pointer (ptr l), .pointer (ptr r), .int .i64 d] : List Value)[i]?) ∧ (∀ i : Nat, W'.cell? ⟨W.heap.size, i, none⟩ = ([.int .i32 c.x0, .int .i32 c.y0, .int .i32 c.x1, .int .i32 c.y1] : List Value)[i]?)) (first | with_reducible assumption | exact ⟨cB, cX⟩) (first
  | (go_at_call 171; (with_reducible refine (HM.out _).mono ?_); rintro e w1 ⟨rfl, hk⟩; have h1 := (H0.out.same (Keeps.refl _ _).drew).same hk; have H1 := Lib.hid h1; have J1 := Lib.hid (HJ.out pre S (fun _ => False) _ _ J0.out H0.out.2.2.2.2.1 ((Keeps.refl _ _).drew.trans hk) (fun _ _ h => h) (fun _ h => h.elim)); have hS1 := And.intro h1.1.1.cell h1.2.1.cell; clear h1 hk; unfold ncells at hS1))
 clear cB cX
 gi_wp2
 have hS2 : (∀ i : Nat, w1.drew.cell? ⟨b, i, none⟩ = ([.int .u32 (id : Int), .int .i32 bx.x0, .int .i32 bx.y0, .int .i32 bx.x1, .int .i32 bx.y1, .int .i32 al.x0, .int .i32 al.y0, .int .i32 al.x1, .int .i32 al.y1, .pointer (ptr l), .pointer (ptr r), .int .i64 d] : List Value)[i]?) ∧ (∀ i : Nat, w1.drew.cell? ⟨W.heap.size, i, none⟩ = ([.int .i32 c.x0, .int .i32 c.y0, .int .i32 c.x1, .int .i32 c.y1] : List Value)[i]?) := hS1
 refine region_heldIn (fun W' => (∀ i : Nat, W'.cell? ⟨b, i, none⟩ = ([.int .u32 (id : Int), .int .i32 bx.x0, .int .i32 bx.y0, .int .i32 bx.x1, .int .i32 bx.y1, .int .i32 al.x0, .int .i32 al.y0, .int .i32 al.x1, .int .i32 al.y1, .pointer (ptr l), .pointer (ptr r), .int .i64 d] : List Value)[i]?) ∧ (∀ i : Nat, W'.cell? ⟨W.heap.size, i, none⟩ = ([.int .i32 c.x0, .int .i32 c.y0, .int .i32 c.x1, .int .i32 c.y1] : List Value)[i]?)) ZBJ ?_
 clear hS1
 refine aT 0 ?_
 refine aT 1 ?_
 refine aT 2 ?_
 refine aT 3 ?_
 refine aT 4 ?_
 refine aT 5 ?_
 refine anyHeld_one 6 ZBJ rfl ZBR (fun K hK => ?_)
 go_simp
 have hsp := hits_node c b id bx al d l r
 have h1 := H1.out
 refine ⟨trivial, (callsIn_wide.2 (callsIn_wide.1 (IL.out pre ((if bx.meet c then [(b, id, bx)] else []) ++ hits c r ++ post) S _ (by rw [HYS.out, hsp]; simp only [List.append_assoc]) (h1.1.2.1.kd (Keeps.refl _ _).drew) (fun x hx => h1.2.2.1 x (by simp [blocks, hx])) h1.2.2.2.2.1 h1.2.2.2.2.2.2 (HJ.out pre S (fun _ => False) _ _ J1.out h1.2.2.2.2.1 (Keeps.refl _ _).drew (fun _ _ h => h) (fun _ h => h.elim))))).mono ?_⟩
 rintro e W2 ⟨S2, hf2, hin2, hres⟩
 have h2 := (h1.same (Keeps.refl _ _).drew).step hf2 hin2
 have hS2' := And.intro h2.1.1.cell h2.2.1.cell
 unfold ncells at hS2'
 have H2 := Lib.hid h2
 clear h1 h2 hf2 hin2 hS2 H1 J1 H0 J0 HM
 rcases hres with ⟨rfl, hj2⟩ | ⟨rfl, p, hp, hx⟩
 rotate_left
 ·have HX := Lib.hid hx; clear hx
  refine hK _ _ hS2' ?_
  clear hK
  try simp only [Act.put, List.setIfInBounds_toArray, List.set_cons_zero, List.set_cons_succ]
  refine aT 7 ?_
  refine aS 8 ?_
  refine aS 9 ?_
  refine aS 10 ?_
  refine aS 11 ?_
  refine aS 12 ?_
  refine aS 13 ?_
  refine aS 14 ?_
  refine aS 15 ?_
  refine aS 16 ?_
  refine aS 17 ?_
  refine aS 18 ?_
  refine aS 19 ?_
  refine aT 20 ?_
  refine aT 21 ?_
  refine aS 22 ?_
  refine aS 23 ?_
  refine aS 24 ?_
  refine aS 25 ?_
  refine aS 26 ?_
  refine aS 27 ?_
  refine aS 28 ?_
  refine aT 29 ?_
  refine aT 30 ?_
  refine anyHeld_done ZBJ ?_ _
  gi_wp2
  go_ret
  exact ⟨S2, H2.out.2.2.2.2.2.1, H2.out.2.2.2.2.1, .inr ⟨rfl, p, hp, HX.out⟩⟩
 refine hK _ _ hS2' ?_
 clear hK
 have J2 := Lib.hid hj2; clear hj2
 try simp only [Act.put, List.setIfInBounds_toArray, List.set_cons_zero, List.set_cons_succ]
 refine aT 7 ?_
 refine aT 8 ?_
 refine aT 9 ?_
 refine aT 10 ?_
 refine aT 11 ?_
 refine aT 12 ?_
 refine anyHeld_one 13 ZBJ rfl ZBR (fun K hK => ?_)
 go_simp
 refine ⟨trivial, (callsIn_wide.2 (HMx.out _)).mono ?_⟩
 rintro e W3 ⟨rfl, hk3⟩
 have h3 := H2.out.same hk3
 have j3 := HJ.out (pre ++ hits c l) S2 (fun _ => False) _ _ J2.out H2.out.2.2.2.2.1 hk3 (fun _ _ h => h) (fun _ h => h.elim)
 have hS3 := And.intro h3.1.1.cell h3.2.1.cell
 unfold ncells at hS3
 refine hK _ _ hS3 ?_
 try simp only [Act.put, List.setIfInBounds_toArray, List.set_cons_zero, List.set_cons_succ]
 have H3 := Lib.hid h3
 have J3 := Lib.hid j3
 clear hK h3 j3 hk3 J2 H2 hS2' HMx
 cases hmb : bx.meet c with
 | false =>
  rw [hmb] at hsp
  have hsp' : hits c (node b id bx al d l r) = hits c l ++ hits c r := by rw [hsp]; simp
  clear hsp
  rw [hsp'] at HYS ⊢
  refine aT 14 ?_
  refine aT 15 ?_
  refine aS 16 ?_
  refine aS 17 ?_
  refine aS 18 ?_
  refine aT 19 ?_
  refine aT 20 ?_
  refine aT 21 ?_
  refine aT 22 ?_
  refine aT 23 ?_
  refine aT 24 ?_
  refine aT 25 ?_
  refine aT 26 ?_
  refine aT 27 ?_
  refine anyHeld_one 28 ZBJ rfl ZBR (fun K hK => ?_)
  go_simp
  have hz := H3.out
  refine ⟨trivial, (callsIn_wide.2 (callsIn_wide.1 (IR.out (pre ++ hits c l) post S2 _ (by rw [HYS.out]; simp only [List.append_assoc]) hz.1.2.2 (fun x hx => hz.2.2.1 x (by simp [blocks, hx])) hz.2.2.2.2.1 hz.2.2.2.2.2.2 J3.out))).mono ?_⟩
  rintro e W9 ⟨S9, hf9, hin9, hres⟩
  have h9 := hz.step hf9 hin9
  have hS9 := And.intro h9.1.1.cell h9.2.1.cell
  unfold ncells at hS9
  have H9 := Lib.hid h9
  clear hz h9 hf9 hin9 hS3
  exact ZY
 | true =>
  rw [hmb] at hsp
  have hsp' : hits c (node b id bx al d l r) = hits c l ++ [(b, id, bx)] ++ hits c r := by rw [hsp]; simp
  clear hsp
  rw [hsp'] at HYS ⊢
  refine aT 14 ?_
  refine aT 15 ?_
  refine aT 16 ?_
  refine aT 17 ?_
  obtain ⟨fn, tmps, assign, body, hy, hR⟩ := HY.out (pre ++ hits c l) (b, id, bx) (hits c r ++ post) S2 W3 (by rw [HYS.out]; simp only [List.append_assoc, List.cons_append, List.nil_append]) J3.out H3.out.2.2.2.2.1
  unfold elEnc at hy
  refine anyHeld_one 18 ZBJ rfl ZBR (fun K hK => ?_)
  go_simp
  refine (hR.mono ?_ : RoundIn _ _ _ _ _ _ _ _ _ _)
  clear hR hy
  rintro e W4 ⟨S4, hf4, hin4, hres⟩
  have h4 := H3.out.step hf4 hin4
  have hS4 := And.intro h4.1.1.cell h4.2.1.cell
  unfold ncells at hS4
  have H4 := Lib.hid h4
  clear h4 hf4 hin4 hS3 H3 J3 HY
  rcases hres with ⟨rfl, hj4⟩ | ⟨rfl, hx4⟩
  ·have J4 := Lib.hid hj4; clear hj4
   refine hK _ _ hS4 ?_
   clear hK
   try simp only [Act.put, List.setIfInBounds_toArray, List.set_cons_zero, List.set_cons_succ]
   refine aT 19 ?_
   refine aT 20 ?_
   refine aT 21 ?_
   refine aT 22 ?_
   refine aT 23 ?_
   refine aT 24 ?_
   refine aT 25 ?_
   refine aT 26 ?_
   refine aT 27 ?_
   refine anyHeld_one 28 ZBJ rfl ZBR (fun K hK => ?_)
   go_simp
   have hz := H4.out
   refine ⟨trivial, (callsIn_wide.2 (callsIn_wide.1 (IR.out (pre ++ hits c l ++ [(b, id, bx)]) post S4 _ (by rw [HYS.out]; simp only [List.append_assoc]) hz.1.2.2 (fun x hx => hz.2.2.1 x (by simp [blocks, hx])) hz.2.2.2.2.1 hz.2.2.2.2.2.2 J4.out))).mono ?_⟩
   rintro e W9 ⟨S9, hf9, hin9, hres⟩
   have h9 := hz.step hf9 hin9
   have hS9 := And.intro h9.1.1.cell h9.2.1.cell
   unfold ncells at hS9
   have H9 := Lib.hid h9
   clear hz h9 hf9 hin9 hS4
   exact ZY
  ·have X4 := Lib.hid hx4; clear hx4
   refine hK _ _ hS4 ?_
   clear hK
   try simp only [Act.put, List.setIfInBounds_toArray, List.set_cons_zero, List.set_cons_succ]
   refine aT 19 ?_
   refine aT 20 ?_
   refine aT 21 ?_
   refine aS 22 ?_
   refine aS 23 ?_
   refine aS 24 ?_
   refine aS 25 ?_
   refine aS 26 ?_
   refine aS 27 ?_
   refine aS 28 ?_
   refine aT 29 ?_
   refine aT 30 ?_
   refine anyHeld_done ZBJ ?_ _
   gi_wp2
   go_ret
   exact ⟨S4, H4.out.2.2.2.2.2.1, H4.out.2.2.2.2.1, .inr ⟨rfl, _, ⟨hits c r ++ post, by rw [HYS.out]; simp only [List.append_assoc]⟩, X4.out⟩⟩
end Tree
end Go.Proofs.YtdbpfbokfmpgcaaGreat
