/-
FiR: an index of any of the three kinds, and its calls.
FiS: an index of any of the three kinds: Put and Del.
FiT: told (of the finder's law); same; all.
FiU: New, Fits, a step's change, told of what an index tells.
-/
import Derived.Test.YtdbpfbokfmpgcaaGreatZbqFiO
import Derived.Test.YtdbpfbokfmpgcaaGreatZauTreeCTreeDTrMTreeBaTreeE
import Derived.Test.YtdbpfbokfmpgcaaGreatZaaMemIterTreeAHeldGrowIter
import Derived.Maps.AppendAt
import Derived.Maps.OwnIn
import Derived.Shelf.Abstract
set_option linter.unusedVariables false
set_option linter.unusedSimpArgs false
set_option linter.ambiguousOpen false
set_option maxHeartbeats 16000000
set_option maxRecDepth 100000
attribute [local go_sem] Go.Oper.semAt_some
namespace Go.Proofs.YtdbpfbokfmpgcaaGreat
theorem ZAr {p : Prop} (h : p := by simp only [toT]; omega) : p := h
theorem Zx {p : Prop} (h : p := by
 go_enter Tryz.func5, Tryz.ntmps5
 go_wp2
 go_ret2
 exact ⟨rfl, Z4⟩) : p := h
open Go.RowKit Go.Shelf
namespace Fi
open Mem Gr Gs
open So (vals)
def FdS (w : World) (v : Value) (F : Nat → Prop) (L : List (Nat × Bx)) : Prop :=
 ∃ B r, v = .iface 63 (.pointer (some ⟨B, 0, none⟩)) ∧ Blk w B 62 [.map (some r)] ∧ MapL kid w r (kvB L) ∧ ∀ x, F x ↔ x = B ∨ x = r
def FdG (w : World) (v : Value) (F : Nat → Prop) (L : List (Nat × Bx)) : Prop :=
 ∃ B r G s FG, v = .iface 67 (.pointer (some ⟨B, 0, none⟩)) ∧ Blk w B 69 [.iface 64 (.pointer (some ⟨G, 0, none⟩)), .map (some r)] ∧ MapL kid w r (kvB L) ∧ Size s ∧ Gd w G s (inL L) L.length FG ∧ ¬ FG r ∧ ∀ x, F x ↔ x = B ∨ x = r ∨ x = G ∨ FG x
def FdT (w : World) (v : Value) (F : Nat → Prop) (L : List (Nat × Bx)) : Prop :=
 ∃ B r T FT Lt, v = .iface 67 (.pointer (some ⟨B, 0, none⟩)) ∧ Blk w B 69 [.iface 70 (.pointer (some ⟨T, 0, none⟩)), .map (some r)] ∧ MapL kid w r (kvB L) ∧ Tree.TrS w T FT Lt ∧ Tw L Lt ∧ ¬ FT B ∧ ¬ FT r ∧ ∀ x, F x ↔ x = B ∨ x = r ∨ FT x
def Fd (w : World) (v : Value) (F : Nat → Prop) (L : List (Nat × Bx)) : Prop := FdS w v F L ∨ FdG w v F L ∨ FdT w v F L
section
variable {w w' : World} {v : Value} {F : Nat → Prop} {L : List (Nat × Bx)}
theorem Fd.keeps {S : Nat → Prop} (h : Fd w v F L) (hk : Keeps S w w') (hd : ∀ x, F x → ¬ S x) : Fd w' v F L := by
 rcases h with ⟨B, r, rfl, h1, h2, h3⟩ | ⟨B, r, G, s, FG, rfl, h1, h2, h3, h4, h5, h6⟩ | ⟨B, r, T, FT, Lt, rfl, h1, h2, h3, h4, h5, h6, h7⟩
 ·exact .inl ⟨B, r, rfl, h1.keeps hk (hd _ ((h3 _).2 (.inl rfl))), h2.keeps hk (hd _ ((h3 _).2 (.inr rfl))), h3⟩
 ·exact .inr (.inl ⟨B, r, G, s, FG, rfl, h1.keeps hk (hd _ ((h6 _).2 (.inl rfl))), h2.keeps hk (hd _ ((h6 _).2 (.inr (.inl rfl)))), h3, h4.keeps hk (hd _ ((h6 _).2 (.inr (.inr (.inl rfl))))) (fun k hk => hd _ ((h6 _).2 (.inr (.inr (.inr hk))))), h5, h6⟩)
 ·exact .inr (.inr ⟨B, r, T, FT, Lt, rfl, h1.keeps hk (hd _ ((h7 _).2 (.inl rfl))), h2.keeps hk (hd _ ((h7 _).2 (.inr (.inl rfl)))), h3.keeps hk (fun k hk => hd _ ((h7 _).2 (.inr (.inr hk)))), h4, h5, h6, h7⟩)
theorem Fd.kd (h : Fd w v F L) (hk : Keeps (fun _ => False) w w') : Fd w' v F L := h.keeps hk (fun _ _ h => h)
theorem Fd.inb (h : Fd w v F L) : Inb F w := by
 rcases h with ⟨B, r, rfl, h1, h2, h3⟩ | ⟨B, r, G, s, FG, rfl, h1, h2, h3, h4, h5, h6⟩ | ⟨B, r, T, FT, Lt, rfl, h1, h2, h3, h4, h5, h6, h7⟩
 ·intro x hx
  rcases (h3 x).1 hx with rfl | rfl
  ·exact h1.lt
  ·exact h2.lt
 ·intro x hx
  rcases (h6 x).1 hx with rfl | rfl | rfl | hx
  ·exact h1.lt
  ·exact h2.lt
  ·exact h4.G_lt
  ·exact h4.lt hx
 ·intro x hx
  rcases (h7 x).1 hx with rfl | rfl | hx
  ·exact h1.lt
  ·exact h2.lt
  ·exact h3.inb x hx
end
theorem tw_len' {L : List (Nat × Bx)} {T : List (Nat × Tree.Bx)} (h : Tw L T) (hL : OkL L) : L.length ≤ T.length := by
 have := hL.keys.length_le_of_subset (l₂ := T.map (·.1)) (fun i hi => by
  obtain ⟨⟨j, b⟩, hp, rfl⟩ := List.mem_map.1 hi
  exact List.mem_map.2 ⟨(j, toT b), (h _ _).2 hp, rfl⟩)
 simpa using this
structure Asks (w : World) (v : Value) (L : List (Nat × Bx)) (t : TypeId) (B fA fC fL : Nat) (rL : Value) : Prop where
 val : v = .iface t (.pointer (some ⟨B, 0, none⟩))
 enA : ∀ args w, (callFunc fA args).run Tryz.prog w = .ok (.enter fA args) w
 enC : ∀ args w, (callFunc fC args).run Tryz.prog w = .ok (.enter fC args) w
 enL : ∀ args w, (callFunc fL args).run Tryz.prog w = .ok (.enter fL args) w
 mA : ∀ W, (method 317 t (.pointer (some ⟨B, 0, none⟩)) "At").run Tryz.prog W = .ok (fA, .pointer (some ⟨B, 0, none⟩)) W
 mC : ∀ W, (method 317 t (.pointer (some ⟨B, 0, none⟩)) "Crossing").run Tryz.prog W = .ok (fC, .pointer (some ⟨B, 0, none⟩)) W
 mL : ∀ W, Keeps (fun _ => False) w W → (method 317 t (.pointer (some ⟨B, 0, none⟩)) "Len").run Tryz.prog W = .ok (fL, rL) W
 aA : ∀ W, Keeps (fun _ => False) w W → ∀ px py, Calls Tryz.prog fA #[.pointer (some ⟨B, 0, none⟩), .agg #[.int .i32 px, .int .i32 py]] W (TellA L (coversP px py) W)
 aC : ∀ W, Keeps (fun _ => False) w W → ∀ px py qx qy, Calls Tryz.prog fC #[.pointer (some ⟨B, 0, none⟩), .agg #[.int .i32 px, .int .i32 py], .agg #[.int .i32 qx, .int .i32 qy]] W (TellA L (tkC px py qx qy) W)
 aL : ∀ W, Keeps (fun _ => False) w W → Calls Tryz.prog fL #[rL] W (fun e w' => e = .returned (.int .i64 (L.length : Int)) ∧ W = w')
theorem m_len (n : Nat) (B : Nat) (W : World) (t : TypeId) (v : Value) (h : W.cell? ⟨B, 0, none⟩ = some (.iface t v)) : (method (n + 1) 67 (.pointer (some ⟨B, 0, none⟩)) "Len").run Tryz.prog W = (method n t v "Len").run Tryz.prog W := by
 have h0 : ((Tryz.prog.info? 67).bind fun i => (i.methods.find? (·.name == "Len")).map fun m => (m.path.toList, m.func)) = some ([⟨69, 0, true⟩], none) := by kernel_rfl
 have hf : ∃ f, (Tryz.prog.underlying 69) = some (.struct f) ∧ (f[0]?).map (fun f => (f.type, f.offset)) = some (24, 0) := ⟨_, Tryz.underlying69, ZAB⟩
 obtain ⟨i, hi, h1⟩ := Option.bind_eq_some_iff.1 h0
 obtain ⟨m, hm, h2⟩ := Option.map_eq_some_iff.1 h1
 obtain ⟨hp, hfn⟩ := Prod.mk.inj h2
 obtain ⟨f, hu, hf⟩ := hf
 obtain ⟨f0, hf0, hf1⟩ := Option.map_eq_some_iff.1 hf
 obtain ⟨ht, ho⟩ := Prod.mk.inj hf1
 conv => lhs; unfold method
 have hg : ∀ W, (isAgg 24).run Tryz.prog W = .ok false W := fun W => by kernel_rfl
 have hl : (load ⟨B, 0, none⟩).run Tryz.prog W = .ok (.iface t v) W := by
  have := run_load (P := Tryz.prog) (w := W) ⟨B, 0, none⟩ .plain
  rw [h] at this
  exact this
 have hv : (loadVar 24 (({ block := B, off := 0 } : Addr).add 0)).run Tryz.prog W = .ok (.iface t v) W := by
  rw [show (({ block := B, off := 0 } : Addr).add 0) = ⟨B, 0, none⟩ from rfl]
  simp [loadVar, hg, hl, Result.andThen]
 simp [typeInfo, hi, hm, hp, hfn, follow, run_underlying hu, hf0, asAddr, Place.get, fieldPlace, ht, ho, hv, Result.andThen]
theorem mG_Len' (a : Option Addr) (W : World) : (method 316 64 (.pointer a) "Len").run Tryz.prog W = .ok (120, .pointer a) W := by kernel_rfl
theorem mT_Len' (a : Option Addr) (W : World) : (method 316 70 (.pointer a) "Len").run Tryz.prog W = .ok (154, .pointer a) W := by kernel_rfl
section
variable {w : World} {v : Value} {F : Nat → Prop} {L : List (Nat × Bx)}
theorem asks_s (h : FdS w v F L) (hL : OkL L) : ∃ t B fA fC fL rL, Asks w v L t B fA fC fL rL := by
 obtain ⟨B, r, rfl, h1, h2, h3⟩ := h
 have hS : ∀ W, Keeps (fun _ => False) w W → ScB W B 0 r := fun W k => ⟨_, _, h1.keeps k (fun h => h), rfl⟩
 have hM : ∀ W, Keeps (fun _ => False) w W → MapL kid W r (kvB L) := fun W k => h2.keeps k (fun h => h)
 exact ⟨_, B, 70, 71, 73, .pointer (some ⟨B, 0, none⟩), rfl, enters_of Tryz.func70 ZAB rfl, enters_of Tryz.func71 ZAB rfl, enters_of Tryz.func73 ZAB rfl,
  fun W => mS_At _ W, fun W => mS_Crossing _ W, fun W _ => mS_Len _ W, fun W k px py => scan_at (hS W k) (hM W k) hL px py, fun W k px py qx qy => scan_cross (hS W k) (hM W k) hL px py qx qy, fun W k => slen_t (hS W k) (hM W k)⟩
theorem asks_g (h : FdG w v F L) (hL : OkL L) : ∃ t B fA fC fL rL, Asks w v L t B fA fC fL rL := by
 obtain ⟨B, r, G, s, FG, rfl, h1, h2, h3, h4, h5, h6⟩ := h
 have hB : ∀ W, Keeps (fun _ => False) w W → Blk W B 69 [.iface 64 (.pointer (some ⟨G, 0, none⟩)), .map (some r)] := fun W k => h1.keeps k (fun h => h)
 have hS : ∀ W, Keeps (fun _ => False) w W → ScB W B 1 r := fun W k => ⟨_, _, hB W k, rfl⟩
 have hM : ∀ W, Keeps (fun _ => False) w W → MapL kid W r (kvB L) := fun W k => h2.keeps k (fun h => h)
 have hl := hL.len
 refine ⟨_, B, 146, 147, 120, .pointer (some ⟨G, 0, none⟩), rfl, enters_of Tryz.func146 ZAB rfl, enters_of Tryz.func147 ZAB rfl, enters_of Tryz.func120 ZAB rfl,
  fun W => mV_At _ W, fun W => mV_Crossing _ W, fun W k => (m_len 316 B W _ _ ((hB W k).cell 0)).trans (mG_Len' _ W), fun W k px py => sieve_at_G (hB W k) hL px py (fun W' k' => ?_), fun W k px py qx qy => sieve_cross_G (hB W k) hL px py qx qy (fun W' k' => ?_), fun W k => gd_len3 h4 hL W k⟩
 ·refine Calls.mono (gd_at3 (h4.kd (k.trans k')) hL h3 hl px py) ?_
  rintro e w5 ⟨V, ⟨VB, rfl, g1, g2⟩, g3, g4⟩
  have kk := (k.trans k').trans g1
  exact ⟨_, rfl, g1, fun W5 k5 tf tb tk et ht hq => those_vals (hS W5 (kk.trans k5)) (hM W5 (kk.trans k5)) hL (vals_kd g2 k5) g3 tf tb tk et ht (fun id b hb htk => g4 id b hb (hq b (hL.right _ hb) htk))⟩
 ·refine Calls.mono (gd_cr3 (h4.kd (k.trans k')) hL h3 hl px py qx qy) ?_
  rintro e w5 ⟨V, ⟨VB, rfl, g1, g2⟩, g3, g4⟩
  have kk := (k.trans k').trans g1
  exact ⟨_, rfl, g1, fun W5 k5 tf tb tk et ht hq => those_vals (hS W5 (kk.trans k5)) (hM W5 (kk.trans k5)) hL (vals_kd g2 k5) g3 tf tb tk et ht (fun id b hb htk => by
   obtain ⟨q1, q2, q3⟩ := hq b (hL.right _ hb) htk
   exact g4 id b hb q1 q2 q3)⟩
theorem asks_t (h : FdT w v F L) (hL : OkL L) : ∃ t B fA fC fL rL, Asks w v L t B fA fC fL rL := by
 obtain ⟨B, r, T, FT, Lt, rfl, h1, h2, h3, h4, h5, h6, h7⟩ := h
 have hB : ∀ W, Keeps (fun _ => False) w W → Blk W B 69 [.iface 70 (.pointer (some ⟨T, 0, none⟩)), .map (some r)] := fun W k => h1.keeps k (fun h => h)
 have hS : ∀ W, Keeps (fun _ => False) w W → ScB W B 1 r := fun W k => ⟨_, _, hB W k, rfl⟩
 have hM : ∀ W, Keeps (fun _ => False) w W → MapL kid W r (kvB L) := fun W k => h2.keeps k (fun h => h)
 have hlen : Lt.length = L.length := by
  obtain ⟨_, _, _, _, _, hr, _⟩ := id h3
  have := tw_len h4 hr
  have := tw_len' h4 hL
  omega
 refine ⟨_, B, 146, 147, 154, .pointer (some ⟨T, 0, none⟩), rfl, enters_of Tryz.func146 ZAB rfl, enters_of Tryz.func147 ZAB rfl, enters_of Tryz.func154 ZAB rfl,
  fun W => mV_At _ W, fun W => mV_Crossing _ W, fun W k => (m_len 316 B W _ _ ((hB W k).cell 0)).trans (mT_Len' _ W), fun W k px py => sieve_at_T (hB W k) hL px py (fun W' k' => ?_), fun W k px py qx qy => sieve_cross_T (hB W k) hL px py qx qy (fun W' k' => ?_), fun W k => hlen ▸ Tree.len_t T FT Lt W (h3.kd k)⟩
 ·refine Calls.mono (Tree.at_any (some ⟨T, 0, none⟩) px py W') ?_
  rintro e w5 ⟨B1, B2, rfl, g1, g2, g3, _, _⟩
  have kk := (k.trans k').trans g3
  exact ⟨_, rfl, g3, fun W5 k5 tf tb tk et ht hq => those_tree (hS W5 (kk.trans k5)) (hM W5 (kk.trans k5)) hL T FT Lt B1 B2 ⟨px, py, px, py⟩ (g1.keeps k5 (fun h => h)) (g2.keeps k5 (fun h => h)) (h3.kd (kk.trans k5)) h4 tf tb tk et ht (fun id b hb htk => tree_at (hL.right _ hb) (hq b (hL.right _ hb) htk))⟩
 ·refine Calls.mono (Tree.crossing_any (some ⟨T, 0, none⟩) px py qx qy W') ?_
  rintro e w5 ⟨B1, B2, rfl, g1, g2, g3, _, _⟩
  have kk := (k.trans k').trans g3
  exact ⟨_, rfl, g3, fun W5 k5 tf tb tk et ht hq => those_tree (hS W5 (kk.trans k5)) (hM W5 (kk.trans k5)) hL T FT Lt B1 B2 ⟨min px qx, min py qy, max px qx, max py qy⟩ (g1.keeps k5 (fun h => h)) (g2.keeps k5 (fun h => h)) (h3.kd (kk.trans k5)) h4 tf tb tk et ht (fun id b hb htk => tree_cr (hL.right _ hb) (hq b (hL.right _ hb) htk).2.2)⟩
theorem Fd.asks (h : Fd w v F L) (hL : OkL L) : ∃ t B fA fC fL rL, Asks w v L t B fA fC fL rL := by
 rcases h with h | h | h
 ·exact asks_s h hL
 ·exact asks_g h hL
 ·exact asks_t h hL
end
end Fi
open Go.RowKit Go.Shelf
namespace Fi
open Mem Gr Gs
open So (vals)
def DidF (v : Value) (F : Nat → Prop) (p : Int × List (Nat × Bx)) (w : World) (e : Ending) (w' : World) : Prop :=
 e = .returned (.int .i64 p.1) ∧ ∃ F', Foot F F' w w' ∧ Fd w' v F' p.2
theorem putF_cases (L : List (Nat × Bx)) (id : Nat) (b : Bx) : (((putF L id b).1 ≠ 0) ∧ (putF L id b).2 = L) ∨ (putF L id b = (0, L ++ [(id, b)]) ∧ Right b ∧ hasB L id = false ∧ L.length < 65536) := by
 unfold putF
 by_cases hb : Right b
 ·cases hh : hasB L id
  ·by_cases hl : 65536 ≤ L.length
   ·left; simp [hb, hl]
   ·right; simp [hb, hl]; omega
  ·left; simp [hb]
 ·left; simp [hb]
structure Chg (w : World) (v : Value) (F : Nat → Prop) (L : List (Nat × Bx)) (t : TypeId) (B fP fD : Nat) : Prop where
 val : v = .iface t (.pointer (some ⟨B, 0, none⟩))
 enP : ∀ args w, (callFunc fP args).run Tryz.prog w = .ok (.enter fP args) w
 enD : ∀ args w, (callFunc fD args).run Tryz.prog w = .ok (.enter fD args) w
 mP : ∀ W, (method 317 t (.pointer (some ⟨B, 0, none⟩)) "Put").run Tryz.prog W = .ok (fP, .pointer (some ⟨B, 0, none⟩)) W
 mD : ∀ W, (method 317 t (.pointer (some ⟨B, 0, none⟩)) "Del").run Tryz.prog W = .ok (fD, .pointer (some ⟨B, 0, none⟩)) W
 aP : ∀ W, Keeps (fun _ => False) w W → ∀ (id : Nat) (b : Bx), id < 4294967296 → Calls Tryz.prog fP #[.pointer (some ⟨B, 0, none⟩), .int .u32 (id : Int), .agg #[.int .i32 b.x0, .int .i32 b.y0, .int .i32 b.x1, .int .i32 b.y1]] W (DidF v F (putF L id b) W)
 aD : ∀ W, Keeps (fun _ => False) w W → ∀ (id : Nat), id < 4294967296 → Calls Tryz.prog fD #[.pointer (some ⟨B, 0, none⟩), .int .u32 (id : Int)] W (DidF v F (delF L id) W)
section
variable {w : World} {v : Value} {F : Nat → Prop} {L : List (Nat × Bx)}
theorem did_same {W w' : World} (h : Fd W v F L) (k : Keeps (fun _ => False) W w') (c : Int) : DidF v F (c, L) W (.returned (.int .i64 c)) w' :=
 ⟨rfl, F, Foot.same (kf k), h.kd k⟩
theorem chg_s (h : FdS w v F L) (hL : OkL L) : ∃ t B fP fD, Chg w v F L t B fP fD := by
 obtain ⟨B, r, rfl, h1, h2, h3⟩ := h
 have hBr : B ≠ r := h2.ne h1
 have fin : ∀ W, Keeps (fun _ => False) w W → ∀ (p : Int × List (Nat × Bx)) e w', SDid r p W e w' → DidF (.iface 63 (.pointer (some ⟨B, 0, none⟩))) F p W e w' := by
  rintro W k p e w' ⟨rfl, g1, g2⟩
  exact ⟨rfl, F, Foot.same (g2.mono (fun x _ e => (h3 x).2 (.inr e))), .inl ⟨B, r, rfl, (h1.keeps k (fun h => h)).keeps g2 hBr, g1, h3⟩⟩
 exact ⟨_, B, 74, 72, rfl, enters_of Tryz.func74 ZAB rfl, enters_of Tryz.func72 ZAB rfl, fun W => mS_Put _ W, fun W => mS_Del _ W,
  fun W k id b _ => (sput_t ⟨_, _, h1.keeps k (fun h => h), rfl⟩ (h2.keeps k (fun h => h)) id b).mono (fun e w' h => fin W k _ e w' h), fun W k id _ => (sdel_t ⟨_, _, h1.keeps k (fun h => h), rfl⟩ (h2.keeps k (fun h => h)) id).mono (fun e w' h => fin W k _ e w' h)⟩
theorem chg_g (h : FdG w v F L) (hL : OkL L) : ∃ t B fP fD, Chg w v F L t B fP fD := by
 have h0 := h
 obtain ⟨B, r, G, s, FG, rfl, h1, h2, h3, h4, h5, h6⟩ := h
 have hl := hL.len
 have hBr : B ≠ r := h2.ne h1
 obtain ⟨gc, hGb⟩ := h4.blk
 have hGr : G ≠ r := h2.ne hGb
 have hFB : ¬ FG B := h4.not_ h1 ZAH
 have hrl := h2.lt
 refine ⟨_, B, 149, 148, rfl, enters_of Tryz.func149 ZAB rfl, enters_of Tryz.func148 ZAB rfl, fun W => mV_Put _ W, fun W => mV_Del _ W, fun W k id b hid => ?_, fun W k id hid => ?_⟩
 ·have hz := k.size
  have hB := h1.keeps k (fun h => h)
  have hM := h2.keeps k (fun h => h)
  rcases putF_cases L id b with ⟨hno, e2⟩ | ⟨hp, hb, hh, hlt⟩
  ·refine Calls.mono (sieve_put_no_G hB hM id b hno) ?_
   rintro e w' ⟨rfl, k'⟩
   have := did_same ((show Fd w _ F L from .inr (.inl h0)).kd k) k' (putF L id b).1
   unfold DidF at this ⊢
   rw [e2]; exact this
  ·rw [hp]
   refine Calls.mono (sieve_put_yes_G hB hM id b (by rw [hp]) FG (fun W1 W2 => ∃ F', Gd W2 G s (inL (L ++ [(id, b)])) (L ++ [(id, b)]).length F' ∧ ∀ x, F' x → FG x ∨ W1.heap.size ≤ x) (fun x hx => by have := h4.lt hx; omega) hFB h5 (fun W1 k1 => ?_)) ?_
   ·refine Calls.mono (gd_put3 (h4.kd (k.trans k1)) h3 hl id b hb hh) ?_
    rintro e w' ⟨rfl, F', g1, g2, g3⟩
    exact ⟨rfl, g2, F', g1, g3⟩
   ·rintro e w' ⟨rfl, W1, W2, q1, q2, ⟨F', q3, q4⟩, q5, q6⟩
    have hz1 := q1.size
    have hF'r : ¬ F' r := fun h => (q4 r h).elim h5 (fun h => Z8)
    refine ⟨rfl, fun x => x = B ∨ x = r ∨ x = G ∨ F' x, ⟨?_, ?_⟩, .inr (.inl ⟨B, r, G, s, F', rfl, ?_, q6, h3, q3.keeps q5 hGr (fun x hx e => hF'r (e ▸ hx)), hF'r, fun x => Iff.rfl⟩)⟩
    ·exact ((kf q1).trans (q2.mono (fun x _ h => (h6 x).2 (.inr (.inr (.inr h)))))).trans (q5.mono (fun x _ h => (h6 x).2 (.inr (.inl h))))
    ·rintro x (h | h | h | h)
     ·exact .inl ((h6 x).2 (.inl h))
     ·exact .inl ((h6 x).2 (.inr (.inl h)))
     ·exact .inl ((h6 x).2 (.inr (.inr (.inl h))))
     ·exact (q4 x h).imp (fun h => (h6 x).2 (.inr (.inr (.inr h)))) (fun h => Z8)
    ·exact ((hB.keeps q1 (fun h => h)).keeps q2 hFB).keeps q5 hBr
 ·have hz := k.size
  have hB := h1.keeps k (fun h => h)
  have hM := h2.keeps k (fun h => h)
  cases hh : hasB L id
  ·rw [show delF L id = (141, L) by simp [delF, hh]]
   refine Calls.mono (sieve_del_no_G hB hM id hh) ?_
   rintro e w' ⟨rfl, g1, g2⟩
   exact ⟨rfl, F, Foot.same (g2.mono (fun x _ e => (h6 x).2 (.inr (.inl e)))), .inr (.inl ⟨B, r, G, s, FG, rfl, hB.keeps g2 hBr, g1, h3, (h4.kd k).keeps g2 hGr (fun x hx e => h5 (e ▸ hx)), h5, h6⟩)⟩
  ·rw [show delF L id = (0, delB id L) by simp [delF, hh]]
   refine Calls.mono (sieve_del_yes_G hB hM id hh FG (fun W1 W2 => ∃ F', Gd W2 G s (inL (delB id L)) (delB id L).length F' ∧ ∀ x, F' x → FG x ∨ W1.heap.size ≤ x) (fun W1 k1 => ?_)) ?_
   ·refine Calls.mono (gd_del3 ((h4.kd k).keeps k1 hGr (fun x hx e => h5 (e ▸ hx))) h3 id hh) ?_
    rintro e w' ⟨rfl, F', g1, g2, g3⟩
    exact ⟨rfl, g2, F', g1, g3⟩
   ·rintro e w' ⟨rfl, W1, q1, q2, q3, F', q4, q5⟩
    have hz1 := q2.size
    have hF'r : ¬ F' r := fun h => (q5 r h).elim h5 (fun h => Z8)
    refine ⟨rfl, fun x => x = B ∨ x = r ∨ x = G ∨ F' x, ⟨?_, ?_⟩, .inr (.inl ⟨B, r, G, s, F', rfl, (hB.keeps q2 hBr).keeps q3 hFB, q1.keeps q3 h5, h3, q4, hF'r, fun x => Iff.rfl⟩)⟩
    ·exact (q2.mono (fun x _ h => (h6 x).2 (.inr (.inl h)))).trans (q3.mono (fun x _ h => (h6 x).2 (.inr (.inr (.inr h)))))
    ·rintro x (h | h | h | h)
     ·exact .inl ((h6 x).2 (.inl h))
     ·exact .inl ((h6 x).2 (.inr (.inl h)))
     ·exact .inl ((h6 x).2 (.inr (.inr (.inl h))))
     ·exact (q5 x h).imp (fun h => (h6 x).2 (.inr (.inr (.inr h)))) (fun h => Z8)
theorem chg_t (h : FdT w v F L) (hL : OkL L) : ∃ t B fP fD, Chg w v F L t B fP fD := by
 have h0 := h
 obtain ⟨B, r, T, FT, Lt, rfl, h1, h2, h3, h4, h5, h6, h7⟩ := h
 have hl := hL.len
 have hBr : B ≠ r := h2.ne h1
 have hrl := h2.lt
 have hBl := h1.lt
 have hlen : Lt.length ≤ L.length := by
  obtain ⟨_, _, _, _, _, hr, _⟩ := id h3
  exact tw_len h4 hr
 refine ⟨_, B, 149, 148, rfl, enters_of Tryz.func149 ZAB rfl, enters_of Tryz.func148 ZAB rfl, fun W => mV_Put _ W, fun W => mV_Del _ W, fun W k id b hid => ?_, fun W k id hid => ?_⟩
 ·have hz := k.size
  have hB := h1.keeps k (fun h => h)
  have hM := h2.keeps k (fun h => h)
  rcases putF_cases L id b with ⟨hno, e2⟩ | ⟨hp, hb, hh, hlt⟩
  ·refine Calls.mono (sieve_put_no_T hB hM id b hno) ?_
   rintro e w' ⟨rfl, k'⟩
   have := did_same ((show Fd w _ F L from .inr (.inr h0)).kd k) k' (putF L id b).1
   unfold DidF at this ⊢
   rw [e2]; exact this
  ·rw [hp]
   have hpr : Tree.putR Lt id (toT b) = (0, Tree.putL id (toT b) Lt) := by
    have e1 : (toT b).right = true := by
     obtain ⟨_, _, g1, g2⟩ := hb
     show (decide (b.x0 ≤ b.x1) && decide (b.y0 ≤ b.y1)) = true
     simp [g1, g2]
    have e2 : Tree.hasL Lt id = false := by rw [tw_has h4, hh]
    unfold Tree.putR
    rw [if_neg (by simp [e1]), e2]
    simp
    omega
   have hel : Tree.El32 (id, toT b) := by
    obtain ⟨⟨a1, a2, a3, a4⟩, ⟨a5, a6, a7, a8⟩, _, _⟩ := hb
    unfold B0 at a1 a2 a3 a4 a5 a6 a7 a8
    exact ⟨hid, ⟨ZAr, ZAr⟩, ⟨ZAr, ZAr⟩, ⟨ZAr, ZAr⟩, ⟨ZAr, ZAr⟩⟩
   refine Calls.mono (sieve_put_yes_T hB hM id b (by rw [hp]) FT (fun W1 W2 => ∃ F', Tree.TrS W2 T F' (Tree.putL id (toT b) Lt) ∧ ∀ x, F' x → FT x ∨ W1.heap.size ≤ x) (fun x hx => by have := h3.inb x hx; omega) h5 h6 (fun W1 k1 => ?_)) ?_
   ·refine Calls.mono (Tree.put_t T FT Lt id (toT b) W1 (h3.kd (k.trans k1)) hel) ?_
    rintro e w' ⟨rfl, F', g1, g2⟩
    rw [hpr] at g2 ⊢
    exact ⟨rfl, g1.1, F', g2, g1.2⟩
   ·rintro e w' ⟨rfl, W1, W2, q1, q2, ⟨F', q3, q4⟩, q5, q6⟩
    have hz1 := q1.size
    have hF'r : ¬ F' r := fun h => (q4 r h).elim h6 (fun h => Z8)
    have hF'B : ¬ F' B := fun h => (q4 B h).elim h5 (fun h => Z8)
    refine ⟨rfl, fun x => x = B ∨ x = r ∨ F' x, ⟨?_, ?_⟩, .inr (.inr ⟨B, r, T, F', _, rfl, ?_, q6, q3.keeps q5 (fun x hx e => hF'r (e ▸ hx)), tw_put h4 id b, hF'B, hF'r, fun x => Iff.rfl⟩)⟩
    ·exact ((kf q1).trans (q2.mono (fun x _ h => (h7 x).2 (.inr (.inr h))))).trans (q5.mono (fun x _ h => (h7 x).2 (.inr (.inl h))))
    ·rintro x (h | h | h)
     ·exact .inl ((h7 x).2 (.inl h))
     ·exact .inl ((h7 x).2 (.inr (.inl h)))
     ·exact (q4 x h).imp (fun h => (h7 x).2 (.inr (.inr h))) (fun h => Z8)
    ·exact ((hB.keeps q1 (fun h => h)).keeps q2 h5).keeps q5 hBr
 ·have hz := k.size
  have hB := h1.keeps k (fun h => h)
  have hM := h2.keeps k (fun h => h)
  cases hh : hasB L id
  ·rw [show delF L id = (141, L) by simp [delF, hh]]
   refine Calls.mono (sieve_del_no_T hB hM id hh) ?_
   rintro e w' ⟨rfl, g1, g2⟩
   exact ⟨rfl, F, Foot.same (g2.mono (fun x _ e => (h7 x).2 (.inr (.inl e)))), .inr (.inr ⟨B, r, T, FT, Lt, rfl, hB.keeps g2 hBr, g1, (h3.kd k).keeps g2 (fun x hx e => h6 (e ▸ hx)), h4, h5, h6, h7⟩)⟩
  ·rw [show delF L id = (0, delB id L) by simp [delF, hh]]
   have hdr : Tree.delR Lt id = (0, Tree.delL id Lt) := by
    unfold Tree.delR
    rw [tw_has h4, hh]; rfl
   refine Calls.mono (sieve_del_yes_T hB hM id hh FT (fun W1 W2 => ∃ F', Tree.TrS W2 T F' (Tree.delL id Lt) ∧ ∀ x, F' x → FT x ∨ W1.heap.size ≤ x) (fun W1 k1 => ?_)) ?_
   ·refine Calls.mono (Tree.del_t T FT Lt id W1 ((h3.kd k).keeps k1 (fun x hx e => h6 (e ▸ hx))) hid) ?_
    rintro e w' ⟨rfl, F', g1, g2⟩
    rw [hdr] at g2 ⊢
    exact ⟨rfl, g1.1, F', g2, g1.2⟩
   ·rintro e w' ⟨rfl, W1, q1, q2, q3, F', q4, q5⟩
    have hz1 := q2.size
    have hF'r : ¬ F' r := fun h => (q5 r h).elim h6 (fun h => Z8)
    have hF'B : ¬ F' B := fun h => (q5 B h).elim h5 (fun h => Z8)
    refine ⟨rfl, fun x => x = B ∨ x = r ∨ F' x, ⟨?_, ?_⟩, .inr (.inr ⟨B, r, T, F', _, rfl, (hB.keeps q2 hBr).keeps q3 h5, q1.keeps q3 h6, q4, tw_del h4 id, hF'B, hF'r, fun x => Iff.rfl⟩)⟩
    ·exact (q2.mono (fun x _ h => (h7 x).2 (.inr (.inl h)))).trans (q3.mono (fun x _ h => (h7 x).2 (.inr (.inr h))))
    ·rintro x (h | h | h)
     ·exact .inl ((h7 x).2 (.inl h))
     ·exact .inl ((h7 x).2 (.inr (.inl h)))
     ·exact (q5 x h).imp (fun h => (h7 x).2 (.inr (.inr h))) (fun h => Z8)
theorem Fd.chg (h : Fd w v F L) (hL : OkL L) : ∃ t B fP fD, Chg w v F L t B fP fD := by
 rcases h with h | h | h
 ·exact chg_s h hL
 ·exact chg_g h hL
 ·exact chg_t h hL
end
end Fi
open Go.RowKit
namespace Tree
open Mem
def ToldI (w : World) (B3 B5 : Nat) (most : Int) (pre : List Nat) (S : Nat → Prop) (W : World) : Prop :=
 ∃ a c, Blk W B5 45 [.slice a pre.length c] ∧ Blk W B3 3 [.int .i64 most] ∧ W.ownsRow w.heap.size 35 1 (.slice a pre.length c) pre.length (u32s pre) ∧ Below w.heap.size w W ∧
  (∀ k, S k ↔ k = B5 ∨ (Value.slice a pre.length c).ownBlock = some k) ∧ (1 ≤ most → (pre.length : Int) < most)
def ToldX (w : World) (B3 B5 : Nat) (most : Int) (c0 : Code) (pre : List Nat) (S : Nat → Prop) (W : World) : Prop :=
 c0 = .exit 0 ∧ pre ≠ [] ∧ (pre.length : Int) = most ∧ ∃ a c, Blk W B5 45 [.slice a pre.length c] ∧ W.ownsRow w.heap.size 35 1 (.slice a pre.length c) pre.length (u32s pre) ∧ Below w.heap.size w W ∧
  (∀ k, S k ↔ k = B5 ∨ (Value.slice a pre.length c).ownBlock = some k)
theorem told_stab (w : World) (B3 B5 : Nat) (most : Int) (b : Nat) (h3 : B3 < b) (hb : w.heap.size ≤ b) : Stab b (ToldI w B3 B5 most) := by
 intro pre S T W W' ⟨a, c, h1, h2, h3', h4, h5, h6⟩ hin hk hd ht
 refine ⟨a, c, h1.keeps hk (hd _ ((h5 _).2 (.inl rfl))), h2.keeps hk (fun h => by have := ht _ h; omega), owns_keeps h3' hk (fun k hk' => hd _ ((h5 _).2 (.inr hk'))), h4.trans ⟨hk.os, hk.tape, hk.output, hk.size, fun k hk' => ?_⟩, h5, h6⟩
 exact hk.block k (Nat.lt_of_lt_of_le hk' h4.size |> fun h => by have := h4.size; have := h1.lt; omega) (fun h => by have := ht _ h; omega)
theorem toldx_stab (w : World) (B3 B5 : Nat) (most : Int) (b : Nat) (hb : w.heap.size ≤ b) (c0 : Code) : Stab b (ToldX w B3 B5 most c0) := by
 intro pre S T W W' ⟨h0, h01, h02, a, c, h1, h3', h4, h5⟩ hin hk hd ht
 refine ⟨h0, h01, h02, a, c, h1.keeps hk (hd _ ((h5 _).2 (.inl rfl))), owns_keeps h3' hk (fun k hk' => hd _ ((h5 _).2 (.inr hk'))), h4.trans ⟨hk.os, hk.tape, hk.output, hk.size, fun k hk' => ?_⟩, h5⟩
 exact hk.block k (by have := h4.size; omega) (fun h => by have := ht _ h; omega)
theorem cut_len (most : Int) (pre rest : List Nat) (h : (pre.length : Int) = most) (hne : pre ≠ []) : cut most (pre ++ rest) = pre := by
 have : 0 < pre.length := List.length_pos_iff.2 hne
 unfold cut
 rw [if_pos Z8, show most.toNat = pre.length by omega, List.take_left]
theorem eq_seq (gf : Nat) (lb : Array Value) (W : World) : (binOp .eql 42 (.func (.func gf) #[] lb) .nilFunc).run Tryz.prog W = .ok (.bool false) W := by kernel_rfl
theorem told_grow (w W w1 : World) (B5 B3 : Nat) (most : Int) (pre : List Nat) (x : Nat) (S : Nat → Prop) (a : Option Addr) (c g cap : Nat) (o : Obj)
 (hS : ∀ k, S k ↔ k = B5 ∨ (Value.slice a pre.length c).ownBlock = some k) (hin : Inb S W) (hO : W.ownsRow w.heap.size 35 1 (.slice a pre.length c) pre.length (u32s pre))
 (h5 : Blk w1 B5 45 [.slice a pre.length c]) (h3 : Blk w1 B3 3 [.int .i64 most])
 (hown : w1.ownsRow w.heap.size 35 1 (.slice (some ⟨g, 0, none⟩) (pre.length + 1) cap) (pre.length + 1) (u32s pre ++ [.int .u32 (x : Int)]))
 (hgrow : (W.alloc o).grownBy w1 (Value.slice a pre.length c).ownBlock)
 (hat : (Value.slice (some ⟨g, 0, none⟩) (pre.length + 1) cap).ownBlock = (Value.slice a pre.length c).ownBlock ∨ (Value.slice (some ⟨g, 0, none⟩) (pre.length + 1) cap).ownBlock = some (W.alloc o).heap.size)
 (hB : Below w.heap.size w W) (hb5 : w.heap.size ≤ B5) :
 Foot S (fun k => k = B5 ∨ k = g) W (w1.setCell ⟨B5, 0, none⟩ (.slice (some ⟨g, 0, none⟩) (pre.length + 1) cap)) ∧
 Inb (fun k => k = B5 ∨ k = g) (w1.setCell ⟨B5, 0, none⟩ (.slice (some ⟨g, 0, none⟩) (pre.length + 1) cap)) ∧
 Blk (w1.setCell ⟨B5, 0, none⟩ (.slice (some ⟨g, 0, none⟩) (pre.length + 1) cap)) B5 45 [.slice (some ⟨g, 0, none⟩) (pre ++ [x]).length cap] ∧
 Blk (w1.setCell ⟨B5, 0, none⟩ (.slice (some ⟨g, 0, none⟩) (pre.length + 1) cap)) B3 3 [.int .i64 most] ∧
 (w1.setCell ⟨B5, 0, none⟩ (.slice (some ⟨g, 0, none⟩) (pre.length + 1) cap)).ownsRow w.heap.size 35 1 (.slice (some ⟨g, 0, none⟩) (pre ++ [x]).length cap) (pre ++ [x]).length (u32s (pre ++ [x])) ∧
 Below w.heap.size w (w1.setCell ⟨B5, 0, none⟩ (.slice (some ⟨g, 0, none⟩) (pre.length + 1) cap)) ∧
 (∀ k, (k = B5 ∨ k = g) ↔ k = B5 ∨ (Value.slice (some ⟨g, 0, none⟩) (pre ++ [x]).length cap).ownBlock = some k) := by
 have hn5 : some B5 ≠ (Value.slice (some ⟨g, 0, none⟩) (pre.length + 1) cap).ownBlock := own_ne hown h5 ZAH
 have hk : Keeps S W w1 := ((Keeps.refl S W).alloc o).grown hgrow (fun k hk e => (hS k).2 (.inr e))
 have hgl : g < w1.heap.size := (hown.lt g rfl).2
 have e1 : (pre ++ [x]).length = pre.length + 1 := by simp
 have e2 : u32s (pre ++ [x]) = u32s pre ++ [.int .u32 (x : Int)] := by simp [u32s]
 refine ⟨⟨hk.setCell (p := ⟨B5, 0, none⟩) (fun _ => (hS B5).2 (.inl rfl)) _, fun k h => ?_⟩, ?_, ?_, ?_, ?_, ?_, ?_⟩
 ·rcases h with rfl | rfl
  ·exact .inl ((hS _).2 (.inl rfl))
  ·rcases hat with h | h
   ·exact .inl ((hS _).2 (.inr h.symm))
   ·simp [Value.ownBlock] at h
    exact .inr Z8
 ·intro k h
  have := h5.lt
  rcases h with rfl | rfl <;> simpa [World.setCell]
 ·rw [e1]; simpa using h5.set_ 0 (.slice (some ⟨g, 0, none⟩) (pre.length + 1) cap)
 ·exact h3.far (Blk.ne_ h3 h5 ZAH) _
 ·rw [e1, e2]; exact owns_setCell hown (p := ⟨B5, 0, none⟩) hn5.symm _
 ·refine Below.setCell ?_ (p := ⟨B5, 0, none⟩) hb5 _
  exact (hB.alloc hB.size o).grown hgrow (by have := hB.size; simp; omega) (fun k hk => (hO.lt k hk).1)
 ·intro k
  simp [Value.ownBlock, eq_comm]
theorem told_any (gf : Nat) (lb : Array Value) (most : Int) (xs : List Nat) (w : World) (A : (Nat → Prop) → Prop) (hl : xs.length ≤ 1000000)
 (eg : ∀ args w, (callFunc gf args).run Tryz.prog w = .ok (.enter gf args) w)
 (hg : ∀ W1, Keeps (fun _ => False) w W1 → Gives Tryz.prog 8 gf lb (fun x : Nat => #[.int .u32 (x : Int)]) xs W1 A) (hA : ∀ S, (∀ k, S k → w.heap.size ≤ k) → A S) :
 Calls Tryz.prog 12 #[.func (.func gf) #[] lb, .int .i64 most] w (Fresh w (cut most xs)) := by
 refine (callsIn_wide (n := 9)).1 ?_
 refine callsIn_of_wp_marks Tryz.func12 rfl trivial ?_ rfl
 simp only [Tryz.ntmps12, List.size_toArray, List.length_cons, List.length_nil, Nat.reduceAdd, Nat.reduceSub, Array.replicate_succ, Array.replicate_zero, List.push_toArray, List.append_toArray, List.nil_append, List.cons_append]
 have HG := Lib.hid hg; clear hg
 have HA := Lib.hid hA; clear hA
 have heq := eq_seq gf lb
 gi_wp2
 have hz1 : ((w.alloc (.cells #[.int .i64 most] 3)).alloc (.cells #[.slice none 0 0] 45)).heap.size = w.heap.size + 1 + 1 := by simp
 refine wpIn_range (gf := gf) (lb := lb) (encs := fun x : Nat => #[.int .u32 (x : Int)]) (xs := xs) (A := A) rfl eg
  (fun W1 hk => HG.out W1 ((((Keeps.refl _ w).alloc _).alloc _).trans hk)) (fun _ => rfl)
  (ToldI w w.heap.size (w.heap.size + 1) most) (ToldX w w.heap.size (w.heap.size + 1) most) (told_stab w _ _ most _ Z8 Z8) (toldx_stab w _ _ most _ Z8)
  (fun k => k = w.heap.size + 1) (fun k hk => by rw [hz1]; omega) ⟨none, 0, ?i1, ?i2, World.ownsRow_nil _ _ _ _, ((Below.refl _ w).alloc (Nat.le_refl _) _).alloc ZA7 _, ?i3, fun h => ZAV⟩
  (fun S hS => HA.out S (fun k hk => by rcases hS k hk with h | h <;> omega))
  (WithAct (ToldI w w.heap.size (w.heap.size + 1) most) (fun x => ⟨#[.func (.func gf) #[] lb, .int .i64 most, undef, .pointer (some ⟨w.heap.size, 0, none⟩), .slice none 0 0, .pointer (some ⟨w.heap.size + 1, 0, none⟩), .int .u32 (x : Int), .func (.func gf) #[] lb, .bool false, undef, .func (.func gf) #[] lb, .int .u32 (x : Int), undef, undef, undef, undef, undef, undef, undef, undef, undef], []⟩))
  (WithAct.stab _ (told_stab w _ _ most _ Z8 Z8)) ?assign ?body ?done ?stop
 case i1 =>
  have := Blk.new (w.alloc (.cells #[.int .i64 most] 3)) 45 [.slice none 0 0]
  simpa using this
 case i2 => exact (Blk.new w 3 [.int .i64 most]).alloc _
 case i3 => intro k; simp [Value.ownBlock]
 case assign =>
  intro l pre x rest S W hxs hI hin hlt
  gi_wp2
  exact ⟨S, Foot.refl _ _, hin, hI, rfl⟩
 case body =>
  rintro l pre x rest a1 S W hxs ⟨⟨a, c, h5, h3, hO, hB, hS, hne⟩, ha⟩ hin hlt
  simp only at ha h5 hO hS hne
  subst ha
  have c5 := h5.cell 0
  have f5 := h5.frozen 0
  have c3 := h3.cell 0
  simp only [List.getElem?_cons_zero] at c5 c3
  obtain ⟨i0, hi0, hz0, hz1', hz2⟩ := info_parts u32Info
  have hpl : pre.length + 1 ≤ 1000000 := by rw [hxs] at hl; simp at hl; omega
  gi_wp2_with (gi_at_builtin; refine wpListIn_append_own_at _ rfl (.tmp 12) (.tmp 14) 45 rfl w.heap.size 35 i0 _ 1 4 Tryz.underlying45 hi0 hz0 hz1' hz2 rfl ZAH (.slice a pre.length c) pre.length (u32s pre) rfl (hO.alloc _) ⟨W.heap.size, 0, none⟩ 1 1 [.int .u32 (x : Int)] rfl rfl (by exact Mem.news_new W _ [_]) ZA6 ZAx Z8 (by have := hB.size; simp; omega) ?_; intro v' w1 hown' hgrow _ hat; obtain ⟨g', cap', rfl⟩ := ownsRow_succ hown'; have h51 := (h5.alloc (.cells #[.int .u32 (x : Int)] 35)).grown hgrow (own_ne hO h5 ZAH); have h31 := (h3.alloc (.cells #[.int .u32 (x : Int)] 35)).grown hgrow (own_ne hO h3 ZAH); have c51 := h51.cell 0; have f51 := h51.frozen 0; have c31 := h31.cell 0; simp only [List.getElem?_cons_zero] at c51 c31; clear c5 f5 c3)
  all_goals
   obtain ⟨t1, t2, t3, t4, t5, t6, t7⟩ := told_grow w W w1 (w.heap.size + 1) w.heap.size most pre x S a c g' cap' (.cells #[.int .u32 (x : Int)] 35) hS hin hO h51 h31 hown' hgrow hat hB Z8
   clear hgrow hown' h51 h31 hat c51 f51 c31
  ·have ht : ((pre.length : Int) + 1 == most) = true := by assumption
   rw [beq_iff_eq] at ht
   exact ⟨_, t1, t2, rfl, ZA7, ZAV, some ⟨g', 0, none⟩, cap', t3, t5, t6, t7⟩
  ·have ht : ((pre.length : Int) + 1 == most) = false := by assumption
   rw [beq_eq_false_iff_ne] at ht
   exact ⟨_, t1, t2, some ⟨g', 0, none⟩, cap', t3, t4, t5, t6, t7, fun h => by have := hne h; simp; omega⟩
 case done =>
  rintro D S' W' hD hnD hf hin ⟨a, c, h5, h3, hO, hB, hS, hne⟩ hDD
  have c5 := h5.cell 0
  simp only [List.getElem?_cons_zero] at c5
  gi_wp2
  refine ⟨ZA7, .inl ⟨_, _, rfl, run_takeDeferred hDD, ?_⟩⟩
  refine ⟨_, results_tmp rfl _ _ _, Value.slice a xs.length c, rfl, ?_, ?_⟩
  ·have hcut : cut most xs = xs := by
    unfold cut
    split
    ·rename_i h1; have := hne h1; exact List.take_of_length_le Z8
    ·rfl
   rw [hcut]
   exact owns_keeps hO (keeps_putObj W' D _) (fun k hk e => hnD (e ▸ (hS k).2 (.inr hk)))
  ·exact (Keeps.of_below0 hB).then (keeps_putObj W' D _) (fun i hi e => Z8)
 case stop =>
  rintro D c0 pre S' W' hD hnD hf hin hpre ⟨rfl, hne, hm, a, c, h5, hO, hB, hS⟩ hDD
  have c5 := h5.cell 0
  simp only [List.getElem?_cons_zero] at c5
  gi_wp2
  refine ⟨ZA7, .inl ⟨_, _, rfl, run_takeDeferred hDD, ?_⟩⟩
  refine ⟨_, results_tmp rfl _ _ _, Value.slice a pre.length c, rfl, ?_, ?_⟩
  ·obtain ⟨rest, rfl⟩ := hpre
   rw [cut_len most pre rest hm hne]
   exact owns_keeps hO (keeps_putObj W' D _) (fun k hk e => hnD (e ▸ (hS k).2 (.inr hk)))
  ·exact (Keeps.of_below0 hB).then (keeps_putObj W' D _) (fun i hi e => Z8)
def Same (b : Bool) (w : World) (e : Ending) (w' : World) : Prop := e = .returned (.bool b) ∧ Keeps (fun _ => False) w w'
theorem same_t (v1 v2 : Value) (xs ys : List Nat) (w : World) (h1 : U32s w v1 xs) (h2 : U32s w v2 ys) (l1 : (xs.length : Int) ≤ 1000000) (l2 : (ys.length : Int) ≤ 1000000) :
 Calls Tryz.prog 11 #[v1, v2] w (Same (decide (xs = ys)) w) := by
 obtain ⟨a1, c1, rfl, f1⟩ := h1
 obtain ⟨a2, c2, rfl, f2⟩ := h2
 have HF1 := Lib.hid f1; clear f1
 have HF2 := Lib.hid f2; clear f2
 by_cases hlen : xs.length = ys.length
 ·have hlI : ((xs.length : Nat) : Int) = ((ys.length : Nat) : Int) := by omega
  go_enter Tryz.func11, Tryz.ntmps11
  go_wp2
  go_loopw [5] (fun p wr => ∃ i : Nat, i ≤ xs.length ∧ p = .int .i64 (i : Int) ∧ xs.take i = ys.take i ∧ Keeps (fun _ => False) w wr) (fun p _ => xs.length - (intOf p).toNat)
  case atStart => exact ⟨0, Nat.zero_le _, rfl, ZA7, Keeps.refl _ _⟩
  case round =>
   obtain ⟨i, hi, rfl, htk, hk⟩ := hrel
   by_cases hlt : i < xs.length
   ·obtain ⟨b1, o1, rfl, g1⟩ := HF1.out i xs[i] (List.getElem?_eq_getElem hlt)
    have hlt2 : i < ys.length := by omega
    obtain ⟨b2, o2, rfl, g2⟩ := HF2.out i ys[i] (List.getElem?_eq_getElem hlt2)
    have g1' := hk.cell (p := ⟨b1, o1 + i, none⟩) g1 (fun h => h)
    have g2' := hk.cell (p := ⟨b2, o2 + i, none⟩) g2 (fun h => h)
    have hii : (i : Int) < xs.length := by omega
    have hii2 : (i : Int) < ys.length := by omega
    have hnat : (0 : Int) ≤ i := by omega
    obtain ⟨x, hx⟩ := ZE (xs[i])
    obtain ⟨y, hy⟩ := ZE (ys[i])
    rw [← hx] at g1'
    rw [← hy] at g2'
    have HT := Lib.hid (show xs.take i = ys.take i ∧ xs[i] = x ∧ ys[i] = y from ⟨htk, hx.symm, hy.symm⟩)
    have HK := Lib.hid hk
    clear g1 g2 hx hy htk hk
    by_cases hxy : x = y
    ·subst hxy
     go_wp2
     go_region
     all_goals
      go_wp2
      go_roundw
      case rel => exact ⟨i + 1, Z8, ZAl, by rw [← List.take_append_getElem hlt, ← List.take_append_getElem hlt2, HT.out.1, HT.out.2.1, HT.out.2.2], HK.out.drew⟩
      case measure => simp [intOf]; omega
    ·go_wp2
     go_region
     all_goals
      go_wp2
      go_ret
      have hne : xs ≠ ys := by
       rintro rfl
       exact hxy (HT.out.2.1.symm.trans HT.out.2.2)
      exact ⟨by simp [hne], HK.out.drew⟩
   ·obtain rfl : i = xs.length := by omega
    have HK := Lib.hid hk; clear hk
    have HT := Lib.hid htk; clear htk
    go_wp2
    go_ret
    have he : xs = ys := by
     have := HT.out
     rw [List.take_length, hlen, List.take_length] at this
     exact this
    exact ⟨ZAz, HK.out⟩
 ·have hne : xs ≠ ys := fun e => hlen (by rw [e])
  have hlI : ¬ ((xs.length : Nat) : Int) = ((ys.length : Nat) : Int) := by omega
  go_enter Tryz.func11, Tryz.ntmps11
  go_wp2
  go_ret
  exact ⟨by simp [hne], Keeps.refl _ _⟩
end Tree
open Go.RowKit Go.Shelf
namespace Fi
open Mem Gr Gs
open So (vals)
structure Stp where
 do_ : Int
 id : Nat
 b : Bx
 px : Int
 py : Int
 qx : Int
 qy : Int
 stop : Int
def Stp.cells (x : Stp) : List Value := [.int .i64 x.do_, .int .u32 (x.id : Int), .int .i32 x.b.x0, .int .i32 x.b.y0, .int .i32 x.b.x1, .int .i32 x.b.y1, .int .i32 x.px, .int .i32 x.py, .int .i32 x.qx, .int .i32 x.qy, .int .i64 x.stop]
theorem ffits11_t (s : Int) (w : World) : Calls Tryz.prog 18 #[.int .i64 s] w fun e w' => e = .returned (.bool (decide (Size s))) ∧ w = w' := by
 unfold Size
 by_cases h1 : 1 ≤ s
 ·by_cases h2 : s ≤ 2147483648
  ·simp only [h1, h2, and_self, decide_true]
   go_enter Tryz.func18, Tryz.ntmps18
   go_wp2
   go_ret
   exact ⟨rfl, rfl⟩
  ·simp only [h1, h2, and_false, decide_false]
   go_enter Tryz.func18, Tryz.ntmps18
   go_wp2
   go_ret
   exact ⟨rfl, rfl⟩
 ·simp only [h1, false_and, decide_false]
  go_enter Tryz.func18, Tryz.ntmps18
  go_wp2
  go_ret
  exact ⟨rfl, rfl⟩
/-! New -/
def NewP (w : World) (e : Ending) (w' : World) : Prop := ∃ v F, e = .returned (.tuple #[v, .int .i64 0]) ∧ (FdS w' v F [] ∨ FdG w' v F [] ∨ FdT w' v F []) ∧ Keeps (fun _ => False) w w' ∧ ∀ k, F k → w.heap.size ≤ k
theorem new_bad (i s : Int) (hs : ¬ Size s) (w : World) : Calls Tryz.prog 5 #[.int .i64 i, .int .i64 s] w fun e w' => e = .returned (.tuple #[.nilIface, .int .i64 2]) ∧ Keeps (fun _ => False) w w' := by
 unfold Size at hs
 by_cases h1 : 1 ≤ s
 ·have h2 : ¬ s ≤ 2147483648 := fun h => hs ⟨h1, h⟩
  clear hs
  exact Zx
 ·clear hs
  exact Zx
theorem new_scan (s : Int) (hs : Size s) (w : World) : Calls Tryz.prog 5 #[.int .i64 0, .int .i64 s] w (NewP w) := by
 have hmm := @run_makeMap Tryz.prog
 obtain ⟨h1, h2⟩ := hs
 go_enter Tryz.func5, Tryz.ntmps5
 go_wp2
 go_ret2
 refine ⟨_, fun k => k = w.heap.size + 1 ∨ k = w.heap.size, rfl, .inl ⟨w.heap.size + 1, w.heap.size, rfl, ?_, ?_, fun k => Iff.rfl⟩, Z4, fun k hk => Z8⟩
 ·have := Blk.new (w.alloc (.map #[] 0)) 62 [.map (some w.heap.size)]
  simpa [Blk] using this
 ·exact (MapL.new kid w).alloc _
theorem gd_new' (w : World) (s : Int) (hs : Size s) : Calls Tryz.prog 16 #[.int .i64 s] w fun e w' => ∃ G F, e = .returned (.tuple #[.pointer (some ⟨G, 0, none⟩), .int .i64 0]) ∧ Gd w' G s (inL []) 0 F ∧ Keeps (fun _ => False) w w' ∧ w.heap.size ≤ G ∧ ∀ k, F k → w.heap.size ≤ k := by
 refine Calls.mono (new_t w s) ?_
 rintro e w' (⟨_, G, r1, r2, r3, rfl, h1, h2, h3, h4, h5, h6⟩ | ⟨h, _⟩)
 ·refine ⟨G, FpG r1 r2 r3 [], rfl, ⟨r1, r2, r3, [], [], [], h1, (GI.nil s).congr (fun id b => by simp [inL]), Nat.le_refl _, fun _ => Iff.rfl⟩, h2, h3, ?_⟩
  rintro k (e | e | e | ⟨e, he, _⟩)
  ·omega
  ·omega
  ·omega
  ·cases he
 ·exact absurd hs h
theorem new_grid (s : Int) (hs : Size s) (w : World) : Calls Tryz.prog 5 #[.int .i64 1, .int .i64 s] w (NewP w) := by
 have hmm := @run_makeMap Tryz.prog
 have k2 : Keeps (fun _ => False) w ((w.alloc (.map #[] 0)).alloc (.cells #[.map (some w.heap.size)] 62)) := by (repeat (first | exact Keeps.refl _ _ | refine Keeps.alloc ?_ _ | refine Keeps.drew ?_))
 have b6 := Blk.new (w.alloc (.map #[] 0)) 62 [.map (some w.heap.size)]
 have m6 : MapL kid ((w.alloc (.map #[] 0)).alloc (.cells #[.map (some w.heap.size)] 62)) w.heap.size (kvB []) := (MapL.new kid w).alloc _
 simp only [World.size_alloc] at b6
 have HZ := Lib.hid (gd_new' ((w.alloc (.map #[] 0)).alloc (.cells #[.map (some w.heap.size)] 62)) s hs)
 have HS := Lib.hid hs
 have HB := Lib.hid (And.intro b6 (And.intro m6 k2))
 obtain ⟨h1, h2⟩ := hs
 clear b6 k2 m6
 go_enter Tryz.func5, Tryz.ntmps5
 go_wp2_with (go_at_call 16; (with_reducible refine HZ.out.mono ?_); rintro e w4 ⟨G, FG, rfl, g1, g2, g3, g4⟩; have c6 := (HB.out.1.keeps g2 (fun h => h)).cell; have HG := Lib.hid (And.intro g1 (And.intro g2 (And.intro g3 g4))); clear g1 g2 g3 g4)
 go_ret2
 obtain ⟨g1, g2, g3, g4⟩ := HG.out
 obtain ⟨b6, m6, k2⟩ := HB.out
 simp only [World.size_alloc] at g3 g4
 have hz := g2.size
 simp only [World.size_alloc] at hz
 have hB := Blk.new w4 69 [.iface 64 (.pointer (some ⟨G, 0, none⟩)), .map (some w.heap.size)]
 refine ⟨_, fun k => k = w4.heap.size ∨ k = w.heap.size ∨ k = G ∨ FG k, rfl, .inr (.inl ⟨w4.heap.size, w.heap.size, G, s, FG, rfl, ?_, (m6.keeps g2 (fun h => h)).alloc _, HS.out, ?_, fun h => by have := g4 _ h; omega, fun k => Iff.rfl⟩), (k2.trans g2).alloc _, fun k hk => ?_⟩
 ·first | exact hB | simpa [Blk] using hB
 ·exact g1.kd ((Keeps.refl _ w4).alloc _)
 ·rcases hk with h | h | h | h
  ·omega
  ·omega
  ·omega
  ·have := g4 k h; omega
theorem new_tree (s : Int) (hs : Size s) (w : World) : Calls Tryz.prog 5 #[.int .i64 2, .int .i64 s] w (NewP w) := by
 have hmm := @run_makeMap Tryz.prog
 have k2 : Keeps (fun _ => False) w ((w.alloc (.map #[] 0)).alloc (.cells #[.map (some w.heap.size)] 62)) := by (repeat (first | exact Keeps.refl _ _ | refine Keeps.alloc ?_ _ | refine Keeps.drew ?_))
 have b6 := Blk.new (w.alloc (.map #[] 0)) 62 [.map (some w.heap.size)]
 have m6 : MapL kid ((w.alloc (.map #[] 0)).alloc (.cells #[.map (some w.heap.size)] 62)) w.heap.size (kvB []) := (MapL.new kid w).alloc _
 simp only [World.size_alloc] at b6
 have HZ := Lib.hid Tree.new_t
 have HB := Lib.hid (And.intro b6 (And.intro m6 k2))
 have HSN := Lib.hid (show ∀ W', Keeps (fun _ => False) ((w.alloc (.map #[] 0)).alloc (.cells #[.map (some w.heap.size)] 62)) W' → ∀ i : Nat, W'.cell? ⟨w.heap.size + 1, i, none⟩ = ([.map (some w.heap.size)] : List Value)[i]? from fun W' hk => (b6.keeps hk (fun h => h)).cell)
 obtain ⟨h1, h2⟩ := hs
 clear b6 k2 m6
 go_enter Tryz.func5, Tryz.ntmps5
 go_wp2
 go_region_held3 (fun W => ∀ i : Nat, W.cell? ⟨w.heap.size + 1, i, none⟩ = ([.map (some w.heap.size)] : List Value)[i]?) (first | with_reducible assumption | exact HSN.out _ (by first | exact HK4.out | exact HK4.out.drew | exact HK4.out.alloc _ | exact Z4)) (first
  | (go_at_call 17; (with_reducible refine (HZ.out _).mono ?_); rintro e w4 ⟨T, FT, rfl, g1, g2, g4⟩; have HK4 := Lib.hid (show Keeps (fun _ => False) ((w.alloc (.map #[] 0)).alloc (.cells #[.map (some w.heap.size)] 62)) w4 from Keeps.trans Z4 g2); have HG := Lib.hid (And.intro g1 (And.intro g2 g4)); clear g1 g2 g4))
 all_goals
  go_wp2
  go_ret2
  obtain ⟨g1, g2, g4⟩ := HG.out
  have hk4 := HK4.out
  obtain ⟨b6, m6, k2⟩ := HB.out
  simp only [World.size_alloc, World.size_drew] at g4
  have hz := hk4.size
  simp only [World.size_alloc] at hz
  have hB := Blk.new w4 69 [.iface 70 (.pointer (some ⟨T, 0, none⟩)), .map (some w.heap.size)]
  have hT := g1.inb
  refine ⟨_, fun k => k = w4.heap.size ∨ k = w.heap.size ∨ FT k, rfl, .inr (.inr ⟨w4.heap.size, w.heap.size, T, FT, [], rfl, ?_, ?_, ?_, fun id b => ZA7, fun h => by have := hT _ h; omega, fun h => by have := g4 _ h; omega, fun k => Iff.rfl⟩), k2.trans (hk4.trans Z4), fun k hk => ?_⟩
  ·exact hB.keeps (S := fun _ => False) Z4 (fun h => h)
  ·exact (m6.keeps hk4 (fun h => h)).keeps (S := fun _ => False) Z4 (fun h => h)
  ·exact g1.kd Z4
  ·rcases hk with h | h | h
   ·omega
   ·omega
   ·have := g4 k h; omega
/-! a step's change -/
theorem told_vals {w : World} {base VB : Nat} {V : List Nat} (hV : Vals base w VB V) (hl : V.length ≤ 65536) : Calls Tryz.prog 12 #[.func (.func 92) #[] #[.pointer (some ⟨VB, 0, none⟩)], .int .i64 0] w fun e w' => ∃ v, e = .returned v ∧ Tree.U32s w' v V ∧ Keeps (fun _ => False) w w' := by
 obtain ⟨_, a, cp, hb, ho⟩ := hV
 refine Calls.mono (Tree.told_any 92 _ 0 V w (fun S => ∀ k, S k → ¬ Tree.rowOf (.slice a V.length cp) k) Z8 (enters_of Tryz.func92 ZAB rfl)
  (fun W1 k => Tree.values1_gives 8 VB (.slice a V.length cp) V W1 Z8 ZA1 (Tree.U32s.of_own (owns_keeps ho k (fun _ _ h => h)))) (fun S hS k hk hr => ?_)) ?_
 ·obtain ⟨a', n', c', e1, e2⟩ := hr
  simp only [Value.slice.injEq] at e1
  obtain ⟨rfl, _, _⟩ := e1
  have := (ho.lt k (by simp [Value.ownBlock, e2])).2
  have := hS k hk
  omega
 ·rintro e w' ⟨v, rfl, hr, hk⟩
  have e0 : Tree.cut 0 V = V := rfl
  rw [e0] at hr
  exact ⟨v, rfl, Tree.U32s.of_own hr, hk⟩
end Fi
end Go.Proofs.YtdbpfbokfmpgcaaGreat
