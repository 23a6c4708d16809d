/-
  TrA: how a tree lies in memory; depth.
-/
import Derived.Test.YtndghakagogmcaaAvlB
import Derived.Test.YtndghakagogmcaaTreeD
import Derived.Test.YtndghakagogmcaaHeld
namespace Go.Proofs.Ytndghakagogmcaa
open Go.RowKit
set_option linter.unusedVariables false
set_option linter.unusedSimpArgs false
attribute [local go_sem] Oper.semAt_some
namespace Tree
open Mem BT
def ncells (id : Nat) (bx al : Bx) (pl pr : Option Addr) (d : Int) : List Value :=
  [.int .u32 (id : Int), .int .i32 bx.x0, .int .i32 bx.y0, .int .i32 bx.x1, .int .i32 bx.y1, .int .i32 al.x0, .int .i32 al.y0, .int .i32 al.x1, .int .i32 al.y1, .pointer pl, .pointer pr, .int .i64 d]
def IsT (w : World) : BT → Prop
  | nil => True
  | node b id bx al d l r => Blk w b 96 (ncells id bx al (ptr l) (ptr r) d) ∧ IsT w l ∧ IsT w r
theorem IsT.keeps {S : Nat → Prop} {w w' : World} (k : Keeps S w w') : ∀ {t : BT}, IsT w t → (∀ x ∈ blocks t, ¬ S x) → IsT w' t
  | nil, _, _ => trivial
  | node b id bx al d l r, h, hs =>
    ⟨h.1.keeps k (hs b (by simp [blocks])), IsT.keeps k h.2.1 (fun x hx => hs x (by simp [blocks, hx])), IsT.keeps k h.2.2 (fun x hx => hs x (by simp [blocks, hx]))⟩
theorem IsT.kd {w w' : World} (k : Keeps (fun _ => False) w w') {t : BT} (h : IsT w t) : IsT w' t := h.keeps k (fun _ _ h => h)
theorem IsT.lt {w : World} : ∀ {t : BT}, IsT w t → ∀ x ∈ blocks t, x < w.heap.size
  | nil, _, x, hx => by simp [blocks] at hx
  | node b id bx al d l r, h, x, hx => by
    simp only [blocks, List.mem_cons, List.mem_append] at hx
    rcases hx with rfl | hx | hx
    · exact h.1.lt
    · exact h.2.1.lt x hx
    · exact h.2.2.lt x hx
theorem depth_any (t : BT) (w : World) (h : IsT w t) : Calls Try.prog 52 #[.pointer (ptr t)] w fun e w' => e = .returned (.int .i64 (dp t)) ∧ w = w' := by
  cases t with
  | nil =>
    go_enter Try.func52, Try.ntmps52
    simp only [ptr]
    go_wp2
    go_ret
    exact ⟨rfl, rfl⟩
  | node b id bx al d l r =>
    have cb := h.1.cell
    unfold ncells at cb
    go_enter Try.func52, Try.ntmps52
    simp only [ptr]
    go_wp2
    go_ret
    exact ⟨rfl, rfl⟩
theorem join_b (a b : Bx) (w : World) (ha : a.right = true) (hb : b.right = true) :
    Calls Try.prog 63 #[.agg #[.int .i32 a.x0, .int .i32 a.y0, .int .i32 a.x1, .int .i32 a.y1], .agg #[.int .i32 b.x0, .int .i32 b.y0, .int .i32 b.x1, .int .i32 b.y1]] w (Gave (Bx.join a b).val w) := by
  simp only [Bx.right, Bool.and_eq_true, decide_eq_true_eq] at ha hb
  exact join_any a b w ha.1 ha.2 hb.1 hb.2
/-- true in what the nodes keep, be it even or not -/
def Fine : BT → Prop
  | nil => True
  | node _ _ bx al d l r => bx.right = true ∧ al = al1 r (al1 l bx) ∧ d = 1 + max (dp l) (dp r) ∧ Fine l ∧ Fine r
theorem ok_fine : ∀ {t : BT}, Ok t → Fine t
  | nil, _ => trivial
  | node _ _ _ _ _ _ _, ⟨h1, h2, h3, _, _, hl, hr⟩ => ⟨h1, h2, h3, ok_fine hl, ok_fine hr⟩
theorem fine_dp : ∀ {t : BT}, Fine t → 0 ≤ dp t
  | nil, _ => Int.le_refl _
  | node _ _ _ _ d l r, h => by
    obtain ⟨_, _, rfl, hl, hr⟩ := h
    have := fine_dp hl; have := fine_dp hr
    simp only [dp_nil, dp_node]; omega
theorem fine_al1 {t : BT} (h : Fine t) : ∀ {a : Bx}, a.right = true → (al1 t a).right = true := by
  induction t with
  | nil => intro a ha; exact ha
  | node b id bx al d l r il ir =>
    intro a ha
    obtain ⟨hb, rfl, hd, hl, hr⟩ := h
    exact join_right ha (ir hr (il hl hb))
theorem fine_al {b id : Nat} {bx al : Bx} {d : Int} {l r : BT} (h : Fine (node b id bx al d l r)) : al.right = true := by
  obtain ⟨hb, rfl, hd, hl, hr⟩ := h
  exact fine_al1 hr (fine_al1 hl hb)
theorem mk_fine {b id : Nat} {bx : Bx} {l r : BT} (hb : bx.right = true) (hl : Fine l) (hr : Fine r) : Fine (mk' b id bx l r) := ⟨hb, rfl, rfl, hl, hr⟩
end Tree
end Go.Proofs.Ytndghakagogmcaa
