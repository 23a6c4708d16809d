/-
HxI: the document's grid: Crossing.
-/
import Derived.Test.YtdbpfbokfmpgcaaZbhHxF
import Derived.Test.YtdbpfbokfmpgcaaZbjHxH
namespace Go.Proofs.Ytdbpfbokfmpgcaa
open Go.RowKit Go.Shelf
set_option linter.unusedVariables false
set_option linter.unusedSimpArgs false
set_option linter.ambiguousOpen false
attribute [local go_sem] Oper.semAt_some
namespace Gx
open Mem Gr Gs
def crF (s : Int) (far : Bool) (cs : List Cl) (L : List (Nat × Bx)) : List Nat := (L.filter (crB s far cs)).map (·.1)
theorem crF_app (s : Int) (far : Bool) (cs : List Cl) (A B : List (Nat × Bx)) : crF s far cs (A ++ B) = crF s far cs A ++ crF s far cs B := by simp [crF]
theorem crF_le (s : Int) (far : Bool) (cs : List Cl) (L : List (Nat × Bx)) : (crF s far cs L).length ≤ L.length := by
  unfold crF; rw [List.length_map]; exact List.length_filter_le _ _
theorem anyC_step {s : Int} {b : Bx} {cs : List Cl} {j : Nat} {c : Cl} (h : cs[j]? = some c) : anyC s b (cs.take (j + 1)) = (anyC s b (cs.take j) || decide (covers s b c)) := by
  unfold anyC
  rw [List.take_add_one, h]
  simp
theorem anyC_sub {s : Int} {b : Bx} {cs : List Cl} {j : Nat} (h : anyC s b (cs.take j) = true) : anyC s b cs = true := by
  unfold anyC at h ⊢
  rw [List.any_eq_true] at h ⊢
  obtain ⟨c, hc, h⟩ := h
  exact ⟨c, List.mem_of_mem_take hc, h⟩
theorem crF_one {s : Int} {far : Bool} {cs : List Cl} {L : List (Nat × Bx)} {i : Nat} {p : Nat × Bx} {l : List Nat} {yb : Bool} (hp : L[i]? = some p) (hl : l = crF s far cs (L.take i)) (hy : crB s far cs p = yb) :
    crF s far cs (L.take (i + 1)) = if yb = true then l ++ [p.1] else l := by
  rw [take_at hp, crF_app, ← hl]
  unfold crF
  by_cases hb : yb = true
  · rw [if_pos hb]; simp [hy, hb]
  · rw [if_neg hb]; simp [hy, hb]
theorem own_two {w : World} {base : Nat} {ca : Option Addr} {n cc : Nat} {cs : List Cl} (h : w.ownsRow base 65 2 (.slice ca n cc) n (cs.flatMap clf)) (hn : n = cs.length) {j : Nat} {c : Cl} (hc : cs[j]? = some c) :
    ∃ g, ca = some ⟨g, 0, none⟩ ∧ w.cell? ⟨g, j * 2, none⟩ = some (.int .i32 c.1) ∧ w.cell? ⟨g, j * 2 + 1, none⟩ = some (.int .i32 c.2) := by
  have hj : j < cs.length := (List.getElem?_eq_some_iff.1 hc).1
  rcases h.2 with ⟨_, h0⟩ | ⟨g, cap, cur, hv, _, _, _⟩
  · omega
  · simp only [Value.slice.injEq] at hv
    have key : ∀ k u, k < 2 → (clf c)[k]? = some u → w.cell? ⟨g, j * 2 + k, none⟩ = some u := fun k u hk hu => by
      have hfc := flat_cell (f := clf) (fun x => rfl) cs j k hk c hc
      have hcc := h.cells (g := g) (by rw [hv.1]; rfl) (j * 2 + k) u (by rw [hfc, hu])
      rw [Addr.add_mid, Nat.zero_add] at hcc
      exact hcc
    exact ⟨g, hv.1, key 0 _ (by decide) rfl, key 1 _ (by decide) rfl⟩
theorem cross_off (w : World) (R : Nat) (px py qx qy : Int) (hm : ¬ (On px py ∧ On qx qy)) :
    Calls Try.prog 27 #[.pointer (some ⟨R, 0, none⟩), .agg #[.int .i32 px, .int .i32 py], .agg #[.int .i32 qx, .int .i32 qy]] w fun e w' => WantL w w' [] e := by
  have z1 := rin_t px py
  have z2 := rin_t qx qy
  by_cases hp : On px py
  · have hq : ¬ On qx qy := fun h => hm ⟨hp, h⟩
    simp only [hp, hq, decide_true, decide_false] at z1 z2
    have bQ := Blk.new (w.alloc (.cells #[.int .i32 px, .int .i32 py] 33)) 33 [.int .i32 qx, .int .i32 qy]
    simp only [World.size_alloc] at bQ
    clear hm hp hq
    go_enter Try.func27, Try.ntmps27
    go_wp2_with (first | (go_at_call 19; (with_reducible refine (z1 _).mono ?_); rintro e w1 ⟨rfl, rfl⟩) | (go_at_call 19; (with_reducible refine (z2 _).mono ?_); rintro e w1 ⟨rfl, hw⟩; have HK1 := Lib.hid (show Keeps (fun _ => False) w w1 from by rw [← hw]; (repeat (first | exact Keeps.refl _ _ | refine Keeps.alloc ?_ _ | refine Keeps.drew ?_))); clear hw))
    go_ret
    exact ⟨none, 0, rfl, HK1.out, World.ownsRow_nil _ _ _ _⟩
  · simp only [hp, decide_false] at z1
    clear hm hp z2
    go_enter Try.func27, Try.ntmps27
    go_wp2_with (first | (go_at_call 19; (with_reducible refine (z1 _).mono ?_); rintro e w1 ⟨rfl, hw⟩; have HK1 := Lib.hid (show Keeps (fun _ => False) w w1 from by rw [← hw]; (repeat (first | exact Keeps.refl _ _ | refine Keeps.alloc ?_ _ | refine Keeps.drew ?_))); clear hw))
    go_ret
    exact ⟨none, 0, rfl, HK1.out, World.ownsRow_nil _ _ _ _⟩
set_option maxHeartbeats 8000000 in
set_option maxRecDepth 100000 in
theorem cross_far_r (w : World) (R : Nat) (s : Int) (a : Option Addr) (cp : Nat) (L : List (Nat × Bx)) (h : RG w R s a cp L) (hs : Size s) (hl : L.length ≤ 100000) (hR : ∀ p ∈ L, Right p.2) (px py qx qy : Int) (hp : On px py) (hq : On qx qy) (hc : cnt s (bnd px py qx qy) > 1024) :
    Calls Try.prog 27 #[.pointer (some ⟨R, 0, none⟩), .agg #[.int .i32 px, .int .i32 py], .agg #[.int .i32 qx, .int .i32 qy]] w fun e w' => WantL w w' (crF s true ([] : List Cl) L) e := by
  have z1 := rin_t px py
  have z2 := rin_t qx qy
  simp only [hp, hq, decide_true] at z1 z2
  obtain ⟨nL, hn⟩ : ∃ n : Nat, n = L.length := ⟨_, rfl⟩
  rw [← hn] at hl
  have hnI : (nL : Int) ≤ 100000 := by omega
  have bR := h.blk
  rw [← hn] at bR
  have zr := fun W (hk : Keeps (fun _ => False) w W) => cells_r W R s _ (bR.keeps hk (fun h => h)) hs (bnd px py qx qy) (bnd_right hp hq)
  obtain ⟨cn0, hcn0⟩ : ∃ c, c = cnt s (bnd px py qx qy) := ⟨_, rfl⟩
  rw [← hcn0] at zr hc
  simp only [bnd] at zr
  skip
  have HCR := Lib.hid zr
  have HN := Lib.hid hn
  have H := Lib.hid h
  have HF := Lib.hid (And.intro hs (And.intro hR bR))
  have bP := (Blk.new w 33 [.int .i32 px, .int .i32 py]).alloc (.cells #[.int .i32 qx, .int .i32 qy] 33)
  have bQ := Blk.new (w.alloc (.cells #[.int .i32 px, .int .i32 py] 33)) 33 [.int .i32 qx, .int .i32 qy]
  simp only [World.size_alloc] at bQ
  have HPQ := Lib.hid (And.intro bP bQ)
  have d1 : decide (cn0 > 1024) = true := decide_eq_true hc
  have d2 : decide (1024 < cn0) = true := decide_eq_true hc
  clear hn h hl hR hs hp hq zr hcn0 bR bP bQ hc
  go_enter Try.func27, Try.ntmps27
  go_wp2_with (first
    | (go_at_call 19; (with_reducible refine (z1 _).mono ?_); rintro e w1 ⟨rfl, rfl⟩)
    | (go_at_call 19; (with_reducible refine (z2 _).mono ?_); rintro e w4 ⟨rfl, hw⟩; have HK4 := Lib.hid (show Keeps (fun _ => False) ((w.alloc (.cells #[.int .i32 px, .int .i32 py] 33)).alloc (.cells #[.int .i32 qx, .int .i32 qy] 33)) w4 from by rw [← hw]; (repeat (first | exact Keeps.refl _ _ | refine Keeps.alloc ?_ _ | refine Keeps.drew ?_))); have cP4 := (HPQ.out.1.keeps HK4.out (fun h => h)).cell; have cQ4 := (HPQ.out.2.keeps HK4.out (fun h => h)).cell; clear hw)
    | (go_at_call 21; (with_reducible refine (HCR.out _ ((Keeps.trans (by (repeat (first | exact Keeps.refl _ _ | refine Keeps.alloc ?_ _ | refine Keeps.drew ?_))) HK4.out).alloc _)).mono ?_); rintro e w6 ⟨rfl, hk6⟩; have HK6 := Lib.hid (Keeps.trans ((Keeps.refl (fun _ => False) w4).alloc _) hk6); clear hk6))
  obtain ⟨w8, hw8⟩ : ∃ w8, w8 = w6 := ⟨_, rfl⟩
  rw [← hw8]
  have HK8 := Lib.hid (show Keeps (fun _ => False) w w8 from by rw [hw8]; exact Keeps.trans (by (repeat (first | exact Keeps.refl _ _ | refine Keeps.alloc ?_ _ | refine Keeps.drew ?_))) (HK4.out.trans HK6.out))
  clear hw8 cP4 cQ4 z1 z2 d1 d2
  go_loopw [7, 11, 12, 13, 14] (fun v q _ _ _ wr => ∃ (i : Nat) (la : Option Addr) (lc : Nat), q = .int .i64 (i : Int) ∧ i ≤ nL ∧ v = .slice la (crF s true ([] : List Cl) (L.take i)).length lc ∧ wr.ownsRow w8.heap.size 31 1 (.slice la (crF s true ([] : List Cl) (L.take i)).length lc) (crF s true ([] : List Cl) (L.take i)).length ((crF s true ([] : List Cl) (L.take i)).flatMap uf) ∧ Keeps (fun _ => False) w8 wr) (fun _ q _ _ _ _ => nL - (intOf q).toNat)
  case atStart => exact ⟨0, none, 0, rfl, Nat.zero_le _, rfl, World.ownsRow_nil _ _ _ _, Keeps.refl _ _⟩
  case round =>
    obtain ⟨i, la, lc, rfl, hi, rfl, hO, hK⟩ := hrel
    have hli : (crF s true ([] : List Cl) (L.take i)).length ≤ 100000 := by
      have := crF_le s true ([] : List Cl) (L.take i)
      have : (L.take i).length ≤ i := List.length_take_le _ _
      omega
    obtain ⟨l, hle⟩ : ∃ l, l = crF s true ([] : List Cl) (L.take i) := ⟨_, rfl⟩
    rw [← hle] at hO hli ⊢
    obtain ⟨m, hm⟩ : ∃ m : Nat, m = l.length := ⟨_, rfl⟩
    rw [← hm] at hO hli ⊢
    have bR := H.out.blk.keeps (HK8.out.trans hK) (fun h => h)
    rw [← HN.out] at bR
    have cR := bR.cell
    have HOw := Lib.hid hO
    have HKR := Lib.hid hK
    have HL := Lib.hid (And.intro hle (And.intro hm hli))
    clear hO hle hm hli
    by_cases hlt : i < nL
    · obtain ⟨p, hp⟩ : ∃ p, L[i]? = some p := ⟨_, List.getElem?_eq_getElem (by have := HN.out; omega)⟩
      have hRG := H.out.kd (HK8.out.trans hK)
      obtain ⟨g, rfl, -⟩ := hRG.row hp
      obtain ⟨c0, c1, c2, c3, c4⟩ := hRG.five hp
      have hltI : (i : Int) < (nL : Int) := by omega
      have hRp := HF.out.2.1 p (List.mem_of_getElem? hp)
      obtain ⟨cn, hcn⟩ : ∃ cn, cn = cnt s p.2 := ⟨_, rfl⟩
      obtain ⟨st, hst⟩ : ∃ st : Bool, st = (true || decide (cn > 1024)) := ⟨_, rfl⟩
      have hcr : ∀ yb, yb = (st || anyC s p.2 ([] : List Cl)) → crB s true ([] : List Cl) p = yb := fun yb e => by rw [e, hst, hcn]; rfl
      have HCB := Lib.hid hcr
      have zc := fun W (hk : Keeps (fun _ => False) wr W) => cells_r W R s _ (bR.keeps hk (fun h => h)) HF.out.1 p.2 hRp
      have zh := fun W (hk : Keeps (fun _ => False) wr W) => has_r W R s _ (bR.keeps hk (fun h => h)) HF.out.1 p.2 hRp
      rw [← hcn] at zc
      have HZ := Lib.hid (And.intro zc zh)
      have HP := Lib.hid (And.intro hp hRp)
      clear hp hK hRp zc zh hcn bR hRG hcr c0
      have hst1 : st = true := by rw [hst]; rfl
      have HST := Lib.hid hst1
      clear hst hst1
      go_wp2
      obtain ⟨w9, hw9⟩ : ∃ w9, w9 = wr.alloc (.cells #[.int .i32 p.2.x0, .int .i32 p.2.y0, .int .i32 p.2.x1, .int .i32 p.2.y1] 35) := ⟨_, rfl⟩
      rw [← hw9]
      have HK9 := Lib.hid (show Keeps (fun _ => False) wr w9 from by rw [hw9]; (repeat (first | exact Keeps.refl _ _ | refine Keeps.alloc ?_ _ | refine Keeps.drew ?_)))
      clear hw9 cR c1 c2 c3 c4
      go_loopw [13, 14] (fun y q wr2 => ∃ (j : Nat) (yb : Bool), y = .bool yb ∧ q = .int .i64 (j : Int) ∧ j ≤ 0 ∧ yb = (true || anyC s p.2 (([] : List Cl).take j)) ∧ Keeps (fun _ => False) w9 wr2) (fun _ q _ => 0 - (intOf q).toNat)
      case atStart => exact ⟨0, true, rfl, rfl, Nat.zero_le _, by simp [anyC], Keeps.refl _ _⟩
      case round =>
        obtain ⟨j, yb, rfl, rfl, hj, hyb, hk9⟩ := hrel
        have kW := HK9.out.trans hk9
        have bR9 := H.out.blk.keeps (HK8.out.trans (HKR.out.trans kW)) (fun h => h)
        rw [← HN.out] at bR9
        have cR := bR9.cell
        obtain ⟨c0, -, -, -, -⟩ := (H.out.kd (HK8.out.trans (HKR.out.trans kW))).five HP.out.1
        have hO9 := owns_keeps HOw.out kW (fun _ _ h => h)
        have HO9 := Lib.hid hO9
        have HK29 := Lib.hid hk9
        have HY := Lib.hid hyb
        clear bR9 hO9 hyb
        by_cases hjn : j < 0
        · omega
        · obtain rfl : j = 0 := by omega
          have hcr : crB s true ([] : List Cl) p = yb := HCB.out yb (by rw [HY.out, HST.out]; simp)
          have HA := Lib.hid (crF_one HP.out.1 HL.out.1 hcr)
          clear hcr kW hk9
          cases yb with
          | true =>
            go_wp2_with (at_builtin; refine app_f elU rfl (.tmp 102) (.tmp 111) rfl w8.heap.size l _ la lc rfl (HO9.out.alloc _) p.1 wr.heap.size rfl (by exact Mem.news_new wr _ [_]) (Nat.le_trans HL.out.2.2 (by decide)) (((HKR.out.trans (HK9.out.trans HK29.out)).alloc _).size) ?_; intro g' cap' w5 hown hgrow; have HG := Lib.hid (And.intro hown hgrow); clear hown hgrow)
            go_roundw
            case rel =>
              have e := HA.out
              simp only [if_true] at e
              have e2 := HL.out.2.1
              exact ⟨i + 1, some ⟨g', 0, none⟩, cap', by rw [Int.natCast_add]; rfl, by omega, by rw [e, e2]; simp, by rw [e]; exact own_n HG.out.1 (by rw [e2]; simp), ((HKR.out.trans (HK9.out.trans HK29.out)).alloc _).grown HG.out.2 (fun k hk e => absurd (HO9.out.lt k e).1 (by omega))⟩
            case measure => simp only [intOf]; omega
          | false =>
            go_wp2
            go_roundw
            case rel =>
              have e := HA.out
              simp only [Bool.false_eq_true, if_false] at e
              have e2 := HL.out.2.1
              exact ⟨i + 1, la, lc, by rw [Int.natCast_add]; rfl, by omega, by rw [e, ← e2], by rw [e, ← e2]; exact HO9.out, HKR.out.trans (HK9.out.trans HK29.out)⟩
            case measure => simp only [intOf]; omega
    · obtain rfl : i = nL := by omega
      have he : l = crF s true ([] : List Cl) L := by
        have h1 := HL.out.1
        rwa [HN.out, List.take_length] at h1
      have HE := Lib.hid he
      clear he hK bR
      go_wp2
      go_ret
      have e1 := HE.out
      have e2 := HL.out.2.1
      have h2 := owns_base HOw.out (HK8.out.size)
      rw [uf_flat] at h2
      subst e2
      rw [← e1]
      exact ⟨la, lc, rfl, HK8.out.trans HKR.out, h2⟩
set_option maxHeartbeats 8000000 in
set_option maxRecDepth 100000 in
theorem cross_near_r (w : World) (R : Nat) (s : Int) (a : Option Addr) (cp : Nat) (L : List (Nat × Bx)) (h : RG w R s a cp L) (hs : Size s) (hl : L.length ≤ 100000) (hR : ∀ p ∈ L, Right p.2) (px py qx qy : Int) (hp : On px py) (hq : On qx qy) (hc : ¬ cnt s (bnd px py qx qy) > 1024) :
    Calls Try.prog 27 #[.pointer (some ⟨R, 0, none⟩), .agg #[.int .i32 px, .int .i32 py], .agg #[.int .i32 qx, .int .i32 qy]] w fun e w' => WantL w w' (crF s false (lineL px py qx qy s) L) e := by
  have z1 := rin_t px py
  have z2 := rin_t qx qy
  simp only [hp, hq, decide_true] at z1 z2
  obtain ⟨nL, hn⟩ : ∃ n : Nat, n = L.length := ⟨_, rfl⟩
  rw [← hn] at hl
  have hnI : (nL : Int) ≤ 100000 := by omega
  have bR := h.blk
  rw [← hn] at bR
  have zr := fun W (hk : Keeps (fun _ => False) w W) => cells_r W R s _ (bR.keeps hk (fun h => h)) hs (bnd px py qx qy) (bnd_right hp hq)
  obtain ⟨cn0, hcn0⟩ : ∃ c, c = cnt s (bnd px py qx qy) := ⟨_, rfl⟩
  rw [← hcn0] at zr hc
  simp only [bnd] at zr
  have hln := lineL_len hs hp hq (by rw [← hcn0]; omega)
  have HIN := Lib.hid (show ∀ c ∈ lineL px py qx qy s, -2147483648 ≤ c.1 ∧ c.1 ≤ 2147483647 ∧ -2147483648 ≤ c.2 ∧ c.2 ≤ 2147483647 from fun c hcl => by
    have h1 := lineL_in hs.1 hcl
    have hb := bnd_right hp hq
    unfold covers at h1
    have m1 := quot_in hs.1 hb.1.1 hb.1.2.1
    have m2 := quot_in hs.1 hb.1.2.2.1 hb.1.2.2.2
    have m3 := quot_in hs.1 hb.2.1.1 hb.2.1.2.1
    have m4 := quot_in hs.1 hb.2.1.2.2.1 hb.2.1.2.2.2
    omega)
  have HLI := Lib.hid (fun W => line_r px py qx qy s hp hq hs hln W)
  obtain ⟨cs, hcs⟩ : ∃ cs, cs = lineL px py qx qy s := ⟨_, rfl⟩
  rw [← hcs] at HLI HIN hln ⊢
  obtain ⟨n, hnc⟩ : ∃ n : Nat, n = cs.length := ⟨_, rfl⟩
  have HCN := Lib.hid hnc
  have hn1 : (n : Int) ≤ 1024 := by omega
  clear hcs hnc hln
  have HCR := Lib.hid zr
  have HN := Lib.hid hn
  have H := Lib.hid h
  have HF := Lib.hid (And.intro hs (And.intro hR bR))
  have bP := (Blk.new w 33 [.int .i32 px, .int .i32 py]).alloc (.cells #[.int .i32 qx, .int .i32 qy] 33)
  have bQ := Blk.new (w.alloc (.cells #[.int .i32 px, .int .i32 py] 33)) 33 [.int .i32 qx, .int .i32 qy]
  simp only [World.size_alloc] at bQ
  have HPQ := Lib.hid (And.intro bP bQ)
  have d1 : decide (cn0 > 1024) = false := decide_eq_false hc
  have d2 : decide (1024 < cn0) = false := decide_eq_false hc
  clear hn h hl hR hs hp hq zr hcn0 bR bP bQ hc
  go_enter Try.func27, Try.ntmps27
  go_wp2_with (first
    | (go_at_call 19; (with_reducible refine (z1 _).mono ?_); rintro e w1 ⟨rfl, rfl⟩)
    | (go_at_call 19; (with_reducible refine (z2 _).mono ?_); rintro e w4 ⟨rfl, hw⟩; have HK4 := Lib.hid (show Keeps (fun _ => False) ((w.alloc (.cells #[.int .i32 px, .int .i32 py] 33)).alloc (.cells #[.int .i32 qx, .int .i32 qy] 33)) w4 from by rw [← hw]; (repeat (first | exact Keeps.refl _ _ | refine Keeps.alloc ?_ _ | refine Keeps.drew ?_))); have cP4 := (HPQ.out.1.keeps HK4.out (fun h => h)).cell; have cQ4 := (HPQ.out.2.keeps HK4.out (fun h => h)).cell; clear hw)
    | (go_at_call 21; (with_reducible refine (HCR.out _ ((Keeps.trans (by (repeat (first | exact Keeps.refl _ _ | refine Keeps.alloc ?_ _ | refine Keeps.drew ?_))) HK4.out).alloc _)).mono ?_); rintro e w6 ⟨rfl, hk6⟩; have HK6 := Lib.hid (Keeps.trans ((Keeps.refl (fun _ => False) w4).alloc _) hk6); clear hk6))
  have HSN := Lib.hid (show ∀ W', Keeps (fun _ => False) w6 W' → (∀ i : Nat, W'.cell? ⟨w.heap.size, i, none⟩ = ([.int .i32 px, .int .i32 py] : List Value)[i]?) ∧ (∀ i : Nat, W'.cell? ⟨w.heap.size + 1, i, none⟩ = ([.int .i32 qx, .int .i32 qy] : List Value)[i]?) ∧ (∀ i : Nat, W'.cell? ⟨R, i, none⟩ = ([.int .i64 s, .slice a nL cp] : List Value)[i]?) from fun W' hk => ⟨(HPQ.out.1.keeps (HK4.out.trans (HK6.out.trans hk)) (fun h => h)).cell, (HPQ.out.2.keeps (HK4.out.trans (HK6.out.trans hk)) (fun h => h)).cell, (HF.out.2.2.keeps (Keeps.trans (by (repeat (first | exact Keeps.refl _ _ | refine Keeps.alloc ?_ _ | refine Keeps.drew ?_))) (HK4.out.trans (HK6.out.trans hk))) (fun h => h)).cell⟩)
  rename_i Kx hKx
  go_region_held3 (fun W => (∀ i : Nat, W.cell? ⟨w.heap.size, i, none⟩ = ([.int .i32 px, .int .i32 py] : List Value)[i]?) ∧ (∀ i : Nat, W.cell? ⟨w.heap.size + 1, i, none⟩ = ([.int .i32 qx, .int .i32 qy] : List Value)[i]?) ∧ (∀ i : Nat, W.cell? ⟨R, i, none⟩ = ([.int .i64 s, .slice a nL cp] : List Value)[i]?)) (first | with_reducible assumption | exact HSN.out _ (by first | exact HK7.out | (repeat (first | exact Keeps.refl _ _ | refine Keeps.alloc ?_ _ | refine Keeps.drew ?_)))) (first | (go_at_call 48; (with_reducible refine (HLI.out _).mono ?_); rintro e w8 hL; obtain ⟨ca, cc, rfl, hk8, hown8⟩ := hL; rw [← HCN.out] at hown8 ⊢; have HK7 := Lib.hid (Keeps.trans (show Keeps (fun _ => False) w6 _ from by (repeat (first | exact Keeps.refl _ _ | refine Keeps.alloc ?_ _ | refine Keeps.drew ?_))) hk8); have HLN := Lib.hid (And.intro HK7.out hown8); clear hk8 hown8))
  refine hKx _ _ ?_
  clear hKx
  have HK8 := Lib.hid (show Keeps (fun _ => False) w w8 from Keeps.trans (by (repeat (first | exact Keeps.refl _ _ | refine Keeps.alloc ?_ _ | refine Keeps.drew ?_))) (HK4.out.trans (HK6.out.trans HK7.out)))
  clear cP4 cQ4 z1 z2 d1 d2
  go_wp2
  go_loopw [7, 11, 12, 13, 14] (fun v q _ _ _ wr => ∃ (i : Nat) (la : Option Addr) (lc : Nat), q = .int .i64 (i : Int) ∧ i ≤ nL ∧ v = .slice la (crF s false cs (L.take i)).length lc ∧ wr.ownsRow w8.heap.size 31 1 (.slice la (crF s false cs (L.take i)).length lc) (crF s false cs (L.take i)).length ((crF s false cs (L.take i)).flatMap uf) ∧ Keeps (fun _ => False) w8 wr) (fun _ q _ _ _ _ => nL - (intOf q).toNat)
  case atStart => exact ⟨0, none, 0, rfl, Nat.zero_le _, rfl, World.ownsRow_nil _ _ _ _, Keeps.refl _ _⟩
  case round =>
    obtain ⟨i, la, lc, rfl, hi, rfl, hO, hK⟩ := hrel
    have hli : (crF s false cs (L.take i)).length ≤ 100000 := by
      have := crF_le s false cs (L.take i)
      have : (L.take i).length ≤ i := List.length_take_le _ _
      omega
    obtain ⟨l, hle⟩ : ∃ l, l = crF s false cs (L.take i) := ⟨_, rfl⟩
    rw [← hle] at hO hli ⊢
    obtain ⟨m, hm⟩ : ∃ m : Nat, m = l.length := ⟨_, rfl⟩
    rw [← hm] at hO hli ⊢
    have bR := H.out.blk.keeps (HK8.out.trans hK) (fun h => h)
    rw [← HN.out] at bR
    have cR := bR.cell
    have HOw := Lib.hid hO
    have HKR := Lib.hid hK
    have HL := Lib.hid (And.intro hle (And.intro hm hli))
    clear hO hle hm hli
    by_cases hlt : i < nL
    · obtain ⟨p, hp⟩ : ∃ p, L[i]? = some p := ⟨_, List.getElem?_eq_getElem (by have := HN.out; omega)⟩
      have hRG := H.out.kd (HK8.out.trans hK)
      obtain ⟨g, rfl, -⟩ := hRG.row hp
      obtain ⟨c0, c1, c2, c3, c4⟩ := hRG.five hp
      have hltI : (i : Int) < (nL : Int) := by omega
      have hRp := HF.out.2.1 p (List.mem_of_getElem? hp)
      obtain ⟨cn, hcn⟩ : ∃ cn, cn = cnt s p.2 := ⟨_, rfl⟩
      obtain ⟨st, hst⟩ : ∃ st : Bool, st = (false || decide (cn > 1024)) := ⟨_, rfl⟩
      have hcr : ∀ yb, yb = (st || anyC s p.2 cs) → crB s false cs p = yb := fun yb e => by rw [e, hst, hcn]; rfl
      have HCB := Lib.hid hcr
      have zc := fun W (hk : Keeps (fun _ => False) wr W) => cells_r W R s _ (bR.keeps hk (fun h => h)) HF.out.1 p.2 hRp
      have zh := fun W (hk : Keeps (fun _ => False) wr W) => has_r W R s _ (bR.keeps hk (fun h => h)) HF.out.1 p.2 hRp
      rw [← hcn] at zc
      have HZ := Lib.hid (And.intro zc zh)
      have HP := Lib.hid (And.intro hp hRp)
      clear hp hK hRp zc zh hcn bR hRG hcr c0
      by_cases hcx : cn > 1024
      · have b1 : decide (cn > 1024) = true := decide_eq_true hcx
        have b2 : decide (1024 < cn) = true := decide_eq_true hcx
        have HCX := Lib.hid hcx
        clear hcx
        have HST := Lib.hid (show st = true by rw [hst, b1]; rfl)
        clear hst HCX
        go_wp2_with (go_at_call 21; (with_reducible refine (HZ.out.1 _ (by (repeat (first | exact Keeps.refl _ _ | refine Keeps.alloc ?_ _ | refine Keeps.drew ?_)))).mono ?_); rintro e w9 ⟨rfl, hk9⟩; have HB12 := Lib.hid ((Blk.new wr 35 [.int .i32 p.2.x0, .int .i32 p.2.y0, .int .i32 p.2.x1, .int .i32 p.2.y1]).keeps hk9 (fun h => h)); have HK9 := Lib.hid (((Keeps.refl (fun _ => False) wr).alloc (.cells #[.int .i32 p.2.x0, .int .i32 p.2.y0, .int .i32 p.2.x1, .int .i32 p.2.y1] 35)).trans hk9); clear hk9)
        obtain ⟨B12, hB12⟩ : ∃ B, B = wr.heap.size := ⟨_, rfl⟩
        rw [← hB12]
        rw [← hB12] at HB12
        clear hB12 cR c1 c2 c3 c4
        go_loopw [13, 14] (fun y q wr2 => ∃ (j : Nat) (yb : Bool), y = .bool yb ∧ q = .int .i64 (j : Int) ∧ j ≤ n ∧ yb = (true || anyC s p.2 (cs.take j)) ∧ Keeps (fun _ => False) w9 wr2) (fun _ q _ => n - (intOf q).toNat)
        case atStart => exact ⟨0, true, rfl, rfl, Nat.zero_le _, by simp [anyC], Keeps.refl _ _⟩
        case round =>
          obtain ⟨j, yb, rfl, rfl, hj, hyb, hk9⟩ := hrel
          have kW := HK9.out.trans hk9
          have bR9 := H.out.blk.keeps (HK8.out.trans (HKR.out.trans kW)) (fun h => h)
          rw [← HN.out] at bR9
          have cR := bR9.cell
          obtain ⟨c0, -, -, -, -⟩ := (H.out.kd (HK8.out.trans (HKR.out.trans kW))).five HP.out.1
          have hO9 := owns_keeps HOw.out kW (fun _ _ h => h)
          have HO9 := Lib.hid hO9
          have HK29 := Lib.hid hk9
          have HY := Lib.hid hyb
          clear bR9 hO9 hyb
          by_cases hjn : j < n
          · obtain ⟨c, hc⟩ : ∃ c, cs[j]? = some c := ⟨_, List.getElem?_eq_getElem (by have := HCN.out; omega)⟩
            have hjI : (j : Int) < (n : Int) := by omega
            cases yb with
            | true =>
              have hcr : crB s false cs p = true := HCB.out true (by
                rw [HST.out]; rfl)
              have HA := Lib.hid (crF_one HP.out.1 HL.out.1 hcr)
              clear hcr hc kW hk9
              go_wp2_with (at_builtin; refine app_f elU rfl (.tmp 102) (.tmp 111) rfl w8.heap.size l _ la lc rfl (HO9.out.alloc _) p.1 wr.heap.size rfl (by exact Mem.news_new wr _ [_]) (Nat.le_trans HL.out.2.2 (by decide)) (((HKR.out.trans (HK9.out.trans HK29.out)).alloc _).size) ?_; intro g' cap' w5 hown hgrow; have HG := Lib.hid (And.intro hown hgrow); clear hown hgrow)
              go_roundw
              case rel =>
                have e := HA.out
                simp only [if_true] at e
                have e2 := HL.out.2.1
                exact ⟨i + 1, some ⟨g', 0, none⟩, cap', by rw [Int.natCast_add]; rfl, by omega, by rw [e, e2]; simp, by rw [e]; exact own_n HG.out.1 (by rw [e2]; simp), ((HKR.out.trans (HK9.out.trans HK29.out)).alloc _).grown HG.out.2 (fun k hk e => absurd (HO9.out.lt k e).1 (by omega))⟩
              case measure => simp only [intOf]; omega
            | false =>
              have hLC := owns_keeps HLN.out.2 (HKR.out.trans kW) (fun _ _ h => h)
              obtain ⟨gc, rfl, e0, e1⟩ := own_two hLC HCN.out hc
              have hb12 := HB12.out.keeps hk9 (fun h => h)
              have HSR := Lib.hid (show ∀ W', Keeps (fun _ => False) wr W' → (∀ i : Nat, W'.cell? ⟨B12, i, none⟩ = ([.int .i32 p.2.x0, .int .i32 p.2.y0, .int .i32 p.2.x1, .int .i32 p.2.y1] : List Value)[i]?) ∧ W'.cell? ⟨gc, j * 2, none⟩ = some (.int .i32 c.1) ∧ W'.cell? ⟨gc, j * 2 + 1, none⟩ = some (.int .i32 c.2) from fun W' hk => ⟨(hb12.keeps hk (fun h => h)).cell, hk.cell e0 (fun h => h), hk.cell e1 (fun h => h)⟩)
              obtain ⟨cv, hcv⟩ : ∃ cv, cv = decide (covers s p.2 c) := ⟨_, rfl⟩
              have zh := HZ.out.2 wr.drew (kW.drew) c (HIN.out c (List.mem_of_getElem? hc)).1 (HIN.out c (List.mem_of_getElem? hc)).2.1 (HIN.out c (List.mem_of_getElem? hc)).2.2.1 (HIN.out c (List.mem_of_getElem? hc)).2.2.2
              rw [← hcv] at zh
              have HH := Lib.hid zh
              have HC := Lib.hid (And.intro hc hcv)
              have hn2 : (j : Int) < (n : Int) := hjI
              have hj0 : (0 : Int) ≤ j := by omega
              clear hc hcv zh hLC e0 e1 hb12 kW hk9 c0 cR
              go_wp2
              rename_i Kx hKx
              go_region_held3 (fun W => (∀ i : Nat, W.cell? ⟨B12, i, none⟩ = ([.int .i32 p.2.x0, .int .i32 p.2.y0, .int .i32 p.2.x1, .int .i32 p.2.y1] : List Value)[i]?) ∧ W.cell? ⟨gc, j * 2, none⟩ = some (.int .i32 c.1) ∧ W.cell? ⟨gc, j * 2 + 1, none⟩ = some (.int .i32 c.2)) (first | with_reducible assumption | exact HSR.out _ (by first | exact HK3.out | (repeat (first | exact Keeps.refl _ _ | refine Keeps.alloc ?_ _ | refine Keeps.drew ?_)))) (first | (go_at_call 22; (with_reducible refine HH.out.mono ?_); rintro e w3 ⟨rfl, hk3⟩; have HK3 := Lib.hid (Keeps.trans (show Keeps (fun _ => False) wr wr.drew from by (repeat (first | exact Keeps.refl _ _ | refine Keeps.alloc ?_ _ | refine Keeps.drew ?_))) hk3); clear hk3))
              refine hKx _ _ ?_
              clear hKx
              go_wp2
              go_roundw
              case rel =>
                refine ⟨j + 1, cv, rfl, by rw [Int.natCast_add]; rfl, by omega, ?_, HK29.out.trans HK3.out⟩
                have h1 := HY.out
                rw [anyC_step HC.out.1, ← Bool.or_assoc, ← h1, HC.out.2]; rfl
              case measure => simp only [intOf]; omega
          · obtain rfl : j = n := by omega
            have hcr : crB s false cs p = yb := HCB.out yb (by rw [HY.out, HST.out, HCN.out, List.take_length])
            have HA := Lib.hid (crF_one HP.out.1 HL.out.1 hcr)
            clear hcr kW hk9
            cases yb with
            | true =>
              go_wp2_with (at_builtin; refine app_f elU rfl (.tmp 102) (.tmp 111) rfl w8.heap.size l _ la lc rfl (HO9.out.alloc _) p.1 wr.heap.size rfl (by exact Mem.news_new wr _ [_]) (Nat.le_trans HL.out.2.2 (by decide)) (((HKR.out.trans (HK9.out.trans HK29.out)).alloc _).size) ?_; intro g' cap' w5 hown hgrow; have HG := Lib.hid (And.intro hown hgrow); clear hown hgrow)
              go_roundw
              case rel =>
                have e := HA.out
                simp only [if_true] at e
                have e2 := HL.out.2.1
                exact ⟨i + 1, some ⟨g', 0, none⟩, cap', by rw [Int.natCast_add]; rfl, by omega, by rw [e, e2]; simp, by rw [e]; exact own_n HG.out.1 (by rw [e2]; simp), ((HKR.out.trans (HK9.out.trans HK29.out)).alloc _).grown HG.out.2 (fun k hk e => absurd (HO9.out.lt k e).1 (by omega))⟩
              case measure => simp only [intOf]; omega
            | false =>
              go_wp2
              go_roundw
              case rel =>
                have e := HA.out
                simp only [Bool.false_eq_true, if_false] at e
                have e2 := HL.out.2.1
                exact ⟨i + 1, la, lc, by rw [Int.natCast_add]; rfl, by omega, by rw [e, ← e2], by rw [e, ← e2]; exact HO9.out, HKR.out.trans (HK9.out.trans HK29.out)⟩
              case measure => simp only [intOf]; omega
      · have b1 : decide (cn > 1024) = false := decide_eq_false hcx
        have b2 : decide (1024 < cn) = false := decide_eq_false hcx
        have HCX := Lib.hid hcx
        clear hcx
        have HST := Lib.hid (show st = false by rw [hst, b1]; rfl)
        clear hst HCX
        go_wp2_with (go_at_call 21; (with_reducible refine (HZ.out.1 _ (by (repeat (first | exact Keeps.refl _ _ | refine Keeps.alloc ?_ _ | refine Keeps.drew ?_)))).mono ?_); rintro e w9 ⟨rfl, hk9⟩; have HB12 := Lib.hid ((Blk.new wr 35 [.int .i32 p.2.x0, .int .i32 p.2.y0, .int .i32 p.2.x1, .int .i32 p.2.y1]).keeps hk9 (fun h => h)); have HK9 := Lib.hid (((Keeps.refl (fun _ => False) wr).alloc (.cells #[.int .i32 p.2.x0, .int .i32 p.2.y0, .int .i32 p.2.x1, .int .i32 p.2.y1] 35)).trans hk9); clear hk9)
        obtain ⟨B12, hB12⟩ : ∃ B, B = wr.heap.size := ⟨_, rfl⟩
        rw [← hB12]
        rw [← hB12] at HB12
        clear hB12 cR c1 c2 c3 c4
        go_loopw [13, 14] (fun y q wr2 => ∃ (j : Nat) (yb : Bool), y = .bool yb ∧ q = .int .i64 (j : Int) ∧ j ≤ n ∧ yb = (false || anyC s p.2 (cs.take j)) ∧ Keeps (fun _ => False) w9 wr2) (fun _ q _ => n - (intOf q).toNat)
        case atStart => exact ⟨0, false, rfl, rfl, Nat.zero_le _, by simp [anyC], Keeps.refl _ _⟩
        case round =>
          obtain ⟨j, yb, rfl, rfl, hj, hyb, hk9⟩ := hrel
          have kW := HK9.out.trans hk9
          have bR9 := H.out.blk.keeps (HK8.out.trans (HKR.out.trans kW)) (fun h => h)
          rw [← HN.out] at bR9
          have cR := bR9.cell
          obtain ⟨c0, -, -, -, -⟩ := (H.out.kd (HK8.out.trans (HKR.out.trans kW))).five HP.out.1
          have hO9 := owns_keeps HOw.out kW (fun _ _ h => h)
          have HO9 := Lib.hid hO9
          have HK29 := Lib.hid hk9
          have HY := Lib.hid hyb
          clear bR9 hO9 hyb
          by_cases hjn : j < n
          · obtain ⟨c, hc⟩ : ∃ c, cs[j]? = some c := ⟨_, List.getElem?_eq_getElem (by have := HCN.out; omega)⟩
            have hjI : (j : Int) < (n : Int) := by omega
            cases yb with
            | true =>
              have hcr : crB s false cs p = true := HCB.out true (by
                have h1 := HY.out; rw [Bool.false_or] at h1; rw [HST.out, anyC_sub h1.symm]; rfl)
              have HA := Lib.hid (crF_one HP.out.1 HL.out.1 hcr)
              clear hcr hc kW hk9
              go_wp2_with (at_builtin; refine app_f elU rfl (.tmp 102) (.tmp 111) rfl w8.heap.size l _ la lc rfl (HO9.out.alloc _) p.1 wr.heap.size rfl (by exact Mem.news_new wr _ [_]) (Nat.le_trans HL.out.2.2 (by decide)) (((HKR.out.trans (HK9.out.trans HK29.out)).alloc _).size) ?_; intro g' cap' w5 hown hgrow; have HG := Lib.hid (And.intro hown hgrow); clear hown hgrow)
              go_roundw
              case rel =>
                have e := HA.out
                simp only [if_true] at e
                have e2 := HL.out.2.1
                exact ⟨i + 1, some ⟨g', 0, none⟩, cap', by rw [Int.natCast_add]; rfl, by omega, by rw [e, e2]; simp, by rw [e]; exact own_n HG.out.1 (by rw [e2]; simp), ((HKR.out.trans (HK9.out.trans HK29.out)).alloc _).grown HG.out.2 (fun k hk e => absurd (HO9.out.lt k e).1 (by omega))⟩
              case measure => simp only [intOf]; omega
            | false =>
              have hLC := owns_keeps HLN.out.2 (HKR.out.trans kW) (fun _ _ h => h)
              obtain ⟨gc, rfl, e0, e1⟩ := own_two hLC HCN.out hc
              have hb12 := HB12.out.keeps hk9 (fun h => h)
              have HSR := Lib.hid (show ∀ W', Keeps (fun _ => False) wr W' → (∀ i : Nat, W'.cell? ⟨B12, i, none⟩ = ([.int .i32 p.2.x0, .int .i32 p.2.y0, .int .i32 p.2.x1, .int .i32 p.2.y1] : List Value)[i]?) ∧ W'.cell? ⟨gc, j * 2, none⟩ = some (.int .i32 c.1) ∧ W'.cell? ⟨gc, j * 2 + 1, none⟩ = some (.int .i32 c.2) from fun W' hk => ⟨(hb12.keeps hk (fun h => h)).cell, hk.cell e0 (fun h => h), hk.cell e1 (fun h => h)⟩)
              obtain ⟨cv, hcv⟩ : ∃ cv, cv = decide (covers s p.2 c) := ⟨_, rfl⟩
              have zh := HZ.out.2 wr.drew (kW.drew) c (HIN.out c (List.mem_of_getElem? hc)).1 (HIN.out c (List.mem_of_getElem? hc)).2.1 (HIN.out c (List.mem_of_getElem? hc)).2.2.1 (HIN.out c (List.mem_of_getElem? hc)).2.2.2
              rw [← hcv] at zh
              have HH := Lib.hid zh
              have HC := Lib.hid (And.intro hc hcv)
              have hn2 : (j : Int) < (n : Int) := hjI
              have hj0 : (0 : Int) ≤ j := by omega
              clear hc hcv zh hLC e0 e1 hb12 kW hk9 c0 cR
              go_wp2
              rename_i Kx hKx
              go_region_held3 (fun W => (∀ i : Nat, W.cell? ⟨B12, i, none⟩ = ([.int .i32 p.2.x0, .int .i32 p.2.y0, .int .i32 p.2.x1, .int .i32 p.2.y1] : List Value)[i]?) ∧ W.cell? ⟨gc, j * 2, none⟩ = some (.int .i32 c.1) ∧ W.cell? ⟨gc, j * 2 + 1, none⟩ = some (.int .i32 c.2)) (first | with_reducible assumption | exact HSR.out _ (by first | exact HK3.out | (repeat (first | exact Keeps.refl _ _ | refine Keeps.alloc ?_ _ | refine Keeps.drew ?_)))) (first | (go_at_call 22; (with_reducible refine HH.out.mono ?_); rintro e w3 ⟨rfl, hk3⟩; have HK3 := Lib.hid (Keeps.trans (show Keeps (fun _ => False) wr wr.drew from by (repeat (first | exact Keeps.refl _ _ | refine Keeps.alloc ?_ _ | refine Keeps.drew ?_))) hk3); clear hk3))
              refine hKx _ _ ?_
              clear hKx
              go_wp2
              go_roundw
              case rel =>
                refine ⟨j + 1, cv, rfl, by rw [Int.natCast_add]; rfl, by omega, ?_, HK29.out.trans HK3.out⟩
                have h1 := HY.out
                rw [anyC_step HC.out.1, ← Bool.or_assoc, ← h1, HC.out.2]; rfl
              case measure => simp only [intOf]; omega
          · obtain rfl : j = n := by omega
            have hcr : crB s false cs p = yb := HCB.out yb (by rw [HY.out, HST.out, HCN.out, List.take_length])
            have HA := Lib.hid (crF_one HP.out.1 HL.out.1 hcr)
            clear hcr kW hk9
            cases yb with
            | true =>
              go_wp2_with (at_builtin; refine app_f elU rfl (.tmp 102) (.tmp 111) rfl w8.heap.size l _ la lc rfl (HO9.out.alloc _) p.1 wr.heap.size rfl (by exact Mem.news_new wr _ [_]) (Nat.le_trans HL.out.2.2 (by decide)) (((HKR.out.trans (HK9.out.trans HK29.out)).alloc _).size) ?_; intro g' cap' w5 hown hgrow; have HG := Lib.hid (And.intro hown hgrow); clear hown hgrow)
              go_roundw
              case rel =>
                have e := HA.out
                simp only [if_true] at e
                have e2 := HL.out.2.1
                exact ⟨i + 1, some ⟨g', 0, none⟩, cap', by rw [Int.natCast_add]; rfl, by omega, by rw [e, e2]; simp, by rw [e]; exact own_n HG.out.1 (by rw [e2]; simp), ((HKR.out.trans (HK9.out.trans HK29.out)).alloc _).grown HG.out.2 (fun k hk e => absurd (HO9.out.lt k e).1 (by omega))⟩
              case measure => simp only [intOf]; omega
            | false =>
              go_wp2
              go_roundw
              case rel =>
                have e := HA.out
                simp only [Bool.false_eq_true, if_false] at e
                have e2 := HL.out.2.1
                exact ⟨i + 1, la, lc, by rw [Int.natCast_add]; rfl, by omega, by rw [e, ← e2], by rw [e, ← e2]; exact HO9.out, HKR.out.trans (HK9.out.trans HK29.out)⟩
              case measure => simp only [intOf]; omega
    · obtain rfl : i = nL := by omega
      have he : l = crF s false cs L := by
        have h1 := HL.out.1
        rwa [HN.out, List.take_length] at h1
      have HE := Lib.hid he
      clear he hK bR
      go_wp2
      go_ret
      have e1 := HE.out
      have e2 := HL.out.2.1
      have h2 := owns_base HOw.out (HK8.out.size)
      rw [uf_flat] at h2
      subst e2
      rw [← e1]
      exact ⟨la, lc, rfl, HK8.out.trans HKR.out, h2⟩
theorem cross_on (w : World) (R : Nat) (s : Int) (a : Option Addr) (cp : Nat) (L : List (Nat × Bx)) (h : RG w R s a cp L) (hs : Size s) (hl : L.length ≤ 100000) (hR : ∀ p ∈ L, Right p.2) (px py qx qy : Int) (hp : On px py) (hq : On qx qy) :
    Calls Try.prog 27 #[.pointer (some ⟨R, 0, none⟩), .agg #[.int .i32 px, .int .i32 py], .agg #[.int .i32 qx, .int .i32 qy]] w fun e w' => WantL w w' (crL s px py qx qy L) e := by
  by_cases hc : cnt s (bnd px py qx qy) > 1024
  · have e : crL s px py qx qy L = crF s true [] L := by unfold crL crF; simp [hc]
    rw [e]
    exact cross_far_r w R s a cp L h hs hl hR px py qx qy hp hq hc
  · have e : crL s px py qx qy L = crF s false (lineL px py qx qy s) L := by unfold crL crF; simp [hc]
    rw [e]
    exact cross_near_r w R s a cp L h hs hl hR px py qx qy hp hq hc
end Gx
end Go.Proofs.Ytdbpfbokfmpgcaa
