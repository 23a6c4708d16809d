/-
FiR: an index of any of the three kinds, and its calls.
FiS: an index of any of the three kinds: Put and Del.
-/
import Derived.Test.YtdbpfbokfmpgcaaGreatZbpFiO
set_option linter.ambiguousOpen false
namespace Go.Proofs.YtdbpfbokfmpgcaaGreat
open Go.RowKit Go.Shelf
set_option linter.unusedVariables false
set_option linter.unusedSimpArgs false
set_option linter.ambiguousOpen false
attribute [local go_sem] Oper.semAt_some
namespace Fi
open Mem Gr Gs
open So (vals)
/-- the three kinds -/
def FdS (w : World) (v : Value) (F : Nat → Prop) (L : List (Nat × Bx)) : Prop :=
  ∃ B r, v = .iface 63 (.pointer (some ⟨B, 0, none⟩)) ∧ Blk w B 62 [.map (some r)] ∧ MapL kid w r (kvB L) ∧ ∀ x, F x ↔ x = B ∨ x = r
def FdG (w : World) (v : Value) (F : Nat → Prop) (L : List (Nat × Bx)) : Prop :=
  ∃ B r G s FG, v = .iface 67 (.pointer (some ⟨B, 0, none⟩)) ∧ Blk w B 69 [.iface 64 (.pointer (some ⟨G, 0, none⟩)), .map (some r)] ∧ MapL kid w r (kvB L) ∧ Size s ∧ Gd w G s (inL L) L.length FG ∧ ¬ FG r ∧ ∀ x, F x ↔ x = B ∨ x = r ∨ x = G ∨ FG x
def FdT (w : World) (v : Value) (F : Nat → Prop) (L : List (Nat × Bx)) : Prop :=
  ∃ B r T FT Lt, v = .iface 67 (.pointer (some ⟨B, 0, none⟩)) ∧ Blk w B 69 [.iface 70 (.pointer (some ⟨T, 0, none⟩)), .map (some r)] ∧ MapL kid w r (kvB L) ∧ Tree.TrS w T FT Lt ∧ Tw L Lt ∧ ¬ FT B ∧ ¬ FT r ∧ ∀ x, F x ↔ x = B ∨ x = r ∨ FT x
def Fd (w : World) (v : Value) (F : Nat → Prop) (L : List (Nat × Bx)) : Prop := FdS w v F L ∨ FdG w v F L ∨ FdT w v F L
section
variable {w w' : World} {v : Value} {F : Nat → Prop} {L : List (Nat × Bx)}
theorem Fd.keeps {S : Nat → Prop} (h : Fd w v F L) (hk : Keeps S w w') (hd : ∀ x, F x → ¬ S x) : Fd w' v F L := by
  rcases h with ⟨B, r, rfl, h1, h2, h3⟩ | ⟨B, r, G, s, FG, rfl, h1, h2, h3, h4, h5, h6⟩ | ⟨B, r, T, FT, Lt, rfl, h1, h2, h3, h4, h5, h6, h7⟩
  · exact .inl ⟨B, r, rfl, h1.keeps hk (hd _ ((h3 _).2 (.inl rfl))), h2.keeps hk (hd _ ((h3 _).2 (.inr rfl))), h3⟩
  · exact .inr (.inl ⟨B, r, G, s, FG, rfl, h1.keeps hk (hd _ ((h6 _).2 (.inl rfl))), h2.keeps hk (hd _ ((h6 _).2 (.inr (.inl rfl)))), h3, h4.keeps hk (hd _ ((h6 _).2 (.inr (.inr (.inl rfl))))) (fun k hk => hd _ ((h6 _).2 (.inr (.inr (.inr hk))))), h5, h6⟩)
  · exact .inr (.inr ⟨B, r, T, FT, Lt, rfl, h1.keeps hk (hd _ ((h7 _).2 (.inl rfl))), h2.keeps hk (hd _ ((h7 _).2 (.inr (.inl rfl)))), h3.keeps hk (fun k hk => hd _ ((h7 _).2 (.inr (.inr hk)))), h4, h5, h6, h7⟩)
theorem Fd.kd (h : Fd w v F L) (hk : Keeps (fun _ => False) w w') : Fd w' v F L := h.keeps hk (fun _ _ h => h)
theorem Fd.inb (h : Fd w v F L) : Inb F w := by
  rcases h with ⟨B, r, rfl, h1, h2, h3⟩ | ⟨B, r, G, s, FG, rfl, h1, h2, h3, h4, h5, h6⟩ | ⟨B, r, T, FT, Lt, rfl, h1, h2, h3, h4, h5, h6, h7⟩
  · intro x hx
    rcases (h3 x).1 hx with rfl | rfl
    · exact h1.lt
    · exact h2.lt
  · intro x hx
    rcases (h6 x).1 hx with rfl | rfl | rfl | hx
    · exact h1.lt
    · exact h2.lt
    · exact h4.G_lt
    · exact h4.lt hx
  · intro x hx
    rcases (h7 x).1 hx with rfl | rfl | hx
    · exact h1.lt
    · exact h2.lt
    · exact h3.inb x hx
end
theorem tw_len' {L : List (Nat × Bx)} {T : List (Nat × Tree.Bx)} (h : Tw L T) (hL : OkL L) : L.length ≤ T.length := by
  have := hL.keys.length_le_of_subset (l₂ := T.map (·.1)) (fun i hi => by
    obtain ⟨⟨j, b⟩, hp, rfl⟩ := List.mem_map.1 hi
    exact List.mem_map.2 ⟨(j, toT b), (h _ _).2 hp, rfl⟩)
  simpa using this
/-- what may be asked of an index, in every world in which nothing was changed since -/
structure Asks (w : World) (v : Value) (L : List (Nat × Bx)) (t : TypeId) (B fA fC fL : Nat) (rL : Value) : Prop where
  val : v = .iface t (.pointer (some ⟨B, 0, none⟩))
  enA : ∀ args w, (callFunc fA args).run Tryz.prog w = .ok (.enter fA args) w
  enC : ∀ args w, (callFunc fC args).run Tryz.prog w = .ok (.enter fC args) w
  enL : ∀ args w, (callFunc fL args).run Tryz.prog w = .ok (.enter fL args) w
  mA : ∀ W, (method 317 t (.pointer (some ⟨B, 0, none⟩)) "At").run Tryz.prog W = .ok (fA, .pointer (some ⟨B, 0, none⟩)) W
  mC : ∀ W, (method 317 t (.pointer (some ⟨B, 0, none⟩)) "Crossing").run Tryz.prog W = .ok (fC, .pointer (some ⟨B, 0, none⟩)) W
  mL : ∀ W, Keeps (fun _ => False) w W → (method 317 t (.pointer (some ⟨B, 0, none⟩)) "Len").run Tryz.prog W = .ok (fL, rL) W
  aA : ∀ W, Keeps (fun _ => False) w W → ∀ px py, Calls Tryz.prog fA #[.pointer (some ⟨B, 0, none⟩), .agg #[.int .i32 px, .int .i32 py]] W (TellA L (coversP px py) W)
  aC : ∀ W, Keeps (fun _ => False) w W → ∀ px py qx qy, Calls Tryz.prog fC #[.pointer (some ⟨B, 0, none⟩), .agg #[.int .i32 px, .int .i32 py], .agg #[.int .i32 qx, .int .i32 qy]] W (TellA L (tkC px py qx qy) W)
  aL : ∀ W, Keeps (fun _ => False) w W → Calls Tryz.prog fL #[rL] W (fun e w' => e = .returned (.int .i64 (L.length : Int)) ∧ W = w')
theorem m_len (n : Nat) (B : Nat) (W : World) (t : TypeId) (v : Value) (h : W.cell? ⟨B, 0, none⟩ = some (.iface t v)) : (method (n + 1) 67 (.pointer (some ⟨B, 0, none⟩)) "Len").run Tryz.prog W = (method n t v "Len").run Tryz.prog W := by
  have h0 : ((Tryz.prog.info? 67).bind fun i => (i.methods.find? (·.name == "Len")).map fun m => (m.path.toList, m.func)) = some ([⟨69, 0, true⟩], none) := by kernel_rfl
  have hf : ∃ f, (Tryz.prog.underlying 69) = some (.struct f) ∧ (f[0]?).map (fun f => (f.type, f.offset)) = some (24, 0) := ⟨_, Tryz.underlying69, by kernel_rfl⟩
  obtain ⟨i, hi, h1⟩ := Option.bind_eq_some_iff.1 h0
  obtain ⟨m, hm, h2⟩ := Option.map_eq_some_iff.1 h1
  obtain ⟨hp, hfn⟩ := Prod.mk.inj h2
  obtain ⟨f, hu, hf⟩ := hf
  obtain ⟨f0, hf0, hf1⟩ := Option.map_eq_some_iff.1 hf
  obtain ⟨ht, ho⟩ := Prod.mk.inj hf1
  conv => lhs; unfold method
  have hg : ∀ W, (isAgg 24).run Tryz.prog W = .ok false W := fun W => by kernel_rfl
  have hl : (load ⟨B, 0, none⟩).run Tryz.prog W = .ok (.iface t v) W := by
    have := run_load (P := Tryz.prog) (w := W) ⟨B, 0, none⟩ .plain
    rw [h] at this
    exact this
  have hv : (loadVar 24 (({ block := B, off := 0 } : Addr).add 0)).run Tryz.prog W = .ok (.iface t v) W := by
    rw [show (({ block := B, off := 0 } : Addr).add 0) = ⟨B, 0, none⟩ from rfl]
    simp [loadVar, hg, hl, Result.andThen]
  simp [typeInfo, hi, hm, hp, hfn, follow, run_underlying hu, hf0, asAddr, Place.get, fieldPlace, ht, ho, hv, Result.andThen]
theorem mG_Len' (a : Option Addr) (W : World) : (method 316 64 (.pointer a) "Len").run Tryz.prog W = .ok (120, .pointer a) W := by kernel_rfl
theorem mT_Len' (a : Option Addr) (W : World) : (method 316 70 (.pointer a) "Len").run Tryz.prog W = .ok (154, .pointer a) W := by kernel_rfl
section
variable {w : World} {v : Value} {F : Nat → Prop} {L : List (Nat × Bx)}
theorem asks_s (h : FdS w v F L) (hL : OkL L) : ∃ t B fA fC fL rL, Asks w v L t B fA fC fL rL := by
  obtain ⟨B, r, rfl, h1, h2, h3⟩ := h
  have hS : ∀ W, Keeps (fun _ => False) w W → ScB W B 0 r := fun W k => ⟨_, _, h1.keeps k (fun h => h), rfl⟩
  have hM : ∀ W, Keeps (fun _ => False) w W → MapL kid W r (kvB L) := fun W k => h2.keeps k (fun h => h)
  exact ⟨_, B, 70, 71, 73, .pointer (some ⟨B, 0, none⟩), rfl, enters_of Tryz.func70 (by kernel_rfl) rfl, enters_of Tryz.func71 (by kernel_rfl) rfl, enters_of Tryz.func73 (by kernel_rfl) rfl,
    fun W => mS_At _ W, fun W => mS_Crossing _ W, fun W _ => mS_Len _ W, fun W k px py => scan_at (hS W k) (hM W k) hL px py, fun W k px py qx qy => scan_cross (hS W k) (hM W k) hL px py qx qy, fun W k => slen_t (hS W k) (hM W k)⟩
theorem asks_g (h : FdG w v F L) (hL : OkL L) : ∃ t B fA fC fL rL, Asks w v L t B fA fC fL rL := by
  obtain ⟨B, r, G, s, FG, rfl, h1, h2, h3, h4, h5, h6⟩ := h
  have hB : ∀ W, Keeps (fun _ => False) w W → Blk W B 69 [.iface 64 (.pointer (some ⟨G, 0, none⟩)), .map (some r)] := fun W k => h1.keeps k (fun h => h)
  have hS : ∀ W, Keeps (fun _ => False) w W → ScB W B 1 r := fun W k => ⟨_, _, hB W k, rfl⟩
  have hM : ∀ W, Keeps (fun _ => False) w W → MapL kid W r (kvB L) := fun W k => h2.keeps k (fun h => h)
  have hl := hL.len
  refine ⟨_, B, 146, 147, 120, .pointer (some ⟨G, 0, none⟩), rfl, enters_of Tryz.func146 (by kernel_rfl) rfl, enters_of Tryz.func147 (by kernel_rfl) rfl, enters_of Tryz.func120 (by kernel_rfl) rfl,
    fun W => mV_At _ W, fun W => mV_Crossing _ W, fun W k => (m_len 316 B W _ _ ((hB W k).cell 0)).trans (mG_Len' _ W), fun W k px py => sieve_at_G (hB W k) hL px py (fun W' k' => ?_), fun W k px py qx qy => sieve_cross_G (hB W k) hL px py qx qy (fun W' k' => ?_), fun W k => gd_len3 h4 hL W k⟩
  · refine Calls.mono (gd_at3 (h4.kd (k.trans k')) hL h3 hl px py) ?_
    rintro e w5 ⟨V, ⟨VB, rfl, g1, g2⟩, g3, g4⟩
    have kk := (k.trans k').trans g1
    exact ⟨_, rfl, g1, fun W5 k5 tf tb tk et ht hq => those_vals (hS W5 (kk.trans k5)) (hM W5 (kk.trans k5)) hL (vals_kd g2 k5) g3 tf tb tk et ht (fun id b hb htk => g4 id b hb (hq b (hL.right _ hb) htk))⟩
  · refine Calls.mono (gd_cr3 (h4.kd (k.trans k')) hL h3 hl px py qx qy) ?_
    rintro e w5 ⟨V, ⟨VB, rfl, g1, g2⟩, g3, g4⟩
    have kk := (k.trans k').trans g1
    exact ⟨_, rfl, g1, fun W5 k5 tf tb tk et ht hq => those_vals (hS W5 (kk.trans k5)) (hM W5 (kk.trans k5)) hL (vals_kd g2 k5) g3 tf tb tk et ht (fun id b hb htk => by
      obtain ⟨q1, q2, q3⟩ := hq b (hL.right _ hb) htk
      exact g4 id b hb q1 q2 q3)⟩
theorem asks_t (h : FdT w v F L) (hL : OkL L) : ∃ t B fA fC fL rL, Asks w v L t B fA fC fL rL := by
  obtain ⟨B, r, T, FT, Lt, rfl, h1, h2, h3, h4, h5, h6, h7⟩ := h
  have hB : ∀ W, Keeps (fun _ => False) w W → Blk W B 69 [.iface 70 (.pointer (some ⟨T, 0, none⟩)), .map (some r)] := fun W k => h1.keeps k (fun h => h)
  have hS : ∀ W, Keeps (fun _ => False) w W → ScB W B 1 r := fun W k => ⟨_, _, hB W k, rfl⟩
  have hM : ∀ W, Keeps (fun _ => False) w W → MapL kid W r (kvB L) := fun W k => h2.keeps k (fun h => h)
  have hlen : Lt.length = L.length := by
    obtain ⟨_, _, _, _, _, hr, _⟩ := id h3
    have := tw_len h4 hr
    have := tw_len' h4 hL
    omega
  refine ⟨_, B, 146, 147, 154, .pointer (some ⟨T, 0, none⟩), rfl, enters_of Tryz.func146 (by kernel_rfl) rfl, enters_of Tryz.func147 (by kernel_rfl) rfl, enters_of Tryz.func154 (by kernel_rfl) rfl,
    fun W => mV_At _ W, fun W => mV_Crossing _ W, fun W k => (m_len 316 B W _ _ ((hB W k).cell 0)).trans (mT_Len' _ W), fun W k px py => sieve_at_T (hB W k) hL px py (fun W' k' => ?_), fun W k px py qx qy => sieve_cross_T (hB W k) hL px py qx qy (fun W' k' => ?_), fun W k => hlen ▸ Tree.len_t T FT Lt W (h3.kd k)⟩
  · refine Calls.mono (Tree.at_any (some ⟨T, 0, none⟩) px py W') ?_
    rintro e w5 ⟨B1, B2, rfl, g1, g2, g3, _, _⟩
    have kk := (k.trans k').trans g3
    exact ⟨_, rfl, g3, fun W5 k5 tf tb tk et ht hq => those_tree (hS W5 (kk.trans k5)) (hM W5 (kk.trans k5)) hL T FT Lt B1 B2 ⟨px, py, px, py⟩ (g1.keeps k5 (fun h => h)) (g2.keeps k5 (fun h => h)) (h3.kd (kk.trans k5)) h4 tf tb tk et ht (fun id b hb htk => tree_at (hL.right _ hb) (hq b (hL.right _ hb) htk))⟩
  · refine Calls.mono (Tree.crossing_any (some ⟨T, 0, none⟩) px py qx qy W') ?_
    rintro e w5 ⟨B1, B2, rfl, g1, g2, g3, _, _⟩
    have kk := (k.trans k').trans g3
    exact ⟨_, rfl, g3, fun W5 k5 tf tb tk et ht hq => those_tree (hS W5 (kk.trans k5)) (hM W5 (kk.trans k5)) hL T FT Lt B1 B2 ⟨min px qx, min py qy, max px qx, max py qy⟩ (g1.keeps k5 (fun h => h)) (g2.keeps k5 (fun h => h)) (h3.kd (kk.trans k5)) h4 tf tb tk et ht (fun id b hb htk => tree_cr (hL.right _ hb) (hq b (hL.right _ hb) htk).2.2)⟩
theorem Fd.asks (h : Fd w v F L) (hL : OkL L) : ∃ t B fA fC fL rL, Asks w v L t B fA fC fL rL := by
  rcases h with h | h | h
  · exact asks_s h hL
  · exact asks_g h hL
  · exact asks_t h hL
end
end Fi
end Go.Proofs.YtdbpfbokfmpgcaaGreat
namespace Go.Proofs.YtdbpfbokfmpgcaaGreat
open Go.RowKit Go.Shelf
set_option linter.unusedVariables false
set_option linter.unusedSimpArgs false
set_option linter.ambiguousOpen false
attribute [local go_sem] Oper.semAt_some
namespace Fi
open Mem Gr Gs
open So (vals)
/-- what a change leaves -/
def DidF (v : Value) (F : Nat → Prop) (p : Int × List (Nat × Bx)) (w : World) (e : Ending) (w' : World) : Prop :=
  e = .returned (.int .i64 p.1) ∧ ∃ F', Foot F F' w w' ∧ Fd w' v F' p.2
theorem putF_cases (L : List (Nat × Bx)) (id : Nat) (b : Bx) : (((putF L id b).1 ≠ 0) ∧ (putF L id b).2 = L) ∨ (putF L id b = (0, L ++ [(id, b)]) ∧ Right b ∧ hasB L id = false ∧ L.length < 65536) := by
  unfold putF
  by_cases hb : Right b
  · cases hh : hasB L id
    · by_cases hl : 65536 ≤ L.length
      · left; simp [hb, hl]
      · right; simp [hb, hl]; omega
    · left; simp [hb]
  · left; simp [hb]
/-- how an index is changed, in every world in which nothing was changed since -/
structure Chg (w : World) (v : Value) (F : Nat → Prop) (L : List (Nat × Bx)) (t : TypeId) (B fP fD : Nat) : Prop where
  val : v = .iface t (.pointer (some ⟨B, 0, none⟩))
  enP : ∀ args w, (callFunc fP args).run Tryz.prog w = .ok (.enter fP args) w
  enD : ∀ args w, (callFunc fD args).run Tryz.prog w = .ok (.enter fD args) w
  mP : ∀ W, (method 317 t (.pointer (some ⟨B, 0, none⟩)) "Put").run Tryz.prog W = .ok (fP, .pointer (some ⟨B, 0, none⟩)) W
  mD : ∀ W, (method 317 t (.pointer (some ⟨B, 0, none⟩)) "Del").run Tryz.prog W = .ok (fD, .pointer (some ⟨B, 0, none⟩)) W
  aP : ∀ W, Keeps (fun _ => False) w W → ∀ (id : Nat) (b : Bx), id < 4294967296 → Calls Tryz.prog fP #[.pointer (some ⟨B, 0, none⟩), .int .u32 (id : Int), .agg #[.int .i32 b.x0, .int .i32 b.y0, .int .i32 b.x1, .int .i32 b.y1]] W (DidF v F (putF L id b) W)
  aD : ∀ W, Keeps (fun _ => False) w W → ∀ (id : Nat), id < 4294967296 → Calls Tryz.prog fD #[.pointer (some ⟨B, 0, none⟩), .int .u32 (id : Int)] W (DidF v F (delF L id) W)
section
variable {w : World} {v : Value} {F : Nat → Prop} {L : List (Nat × Bx)}
theorem did_same {W w' : World} (h : Fd W v F L) (k : Keeps (fun _ => False) W w') (c : Int) : DidF v F (c, L) W (.returned (.int .i64 c)) w' :=
  ⟨rfl, F, Foot.same (kf k), h.kd k⟩
theorem chg_s (h : FdS w v F L) (hL : OkL L) : ∃ t B fP fD, Chg w v F L t B fP fD := by
  obtain ⟨B, r, rfl, h1, h2, h3⟩ := h
  have hBr : B ≠ r := h2.ne h1
  have fin : ∀ W, Keeps (fun _ => False) w W → ∀ (p : Int × List (Nat × Bx)) e w', SDid r p W e w' → DidF (.iface 63 (.pointer (some ⟨B, 0, none⟩))) F p W e w' := by
    rintro W k p e w' ⟨rfl, g1, g2⟩
    exact ⟨rfl, F, Foot.same (g2.mono (fun x _ e => (h3 x).2 (.inr e))), .inl ⟨B, r, rfl, (h1.keeps k (fun h => h)).keeps g2 hBr, g1, h3⟩⟩
  exact ⟨_, B, 74, 72, rfl, enters_of Tryz.func74 (by kernel_rfl) rfl, enters_of Tryz.func72 (by kernel_rfl) rfl, fun W => mS_Put _ W, fun W => mS_Del _ W,
    fun W k id b _ => (sput_t ⟨_, _, h1.keeps k (fun h => h), rfl⟩ (h2.keeps k (fun h => h)) id b).mono (fun e w' h => fin W k _ e w' h), fun W k id _ => (sdel_t ⟨_, _, h1.keeps k (fun h => h), rfl⟩ (h2.keeps k (fun h => h)) id).mono (fun e w' h => fin W k _ e w' h)⟩
theorem chg_g (h : FdG w v F L) (hL : OkL L) : ∃ t B fP fD, Chg w v F L t B fP fD := by
  have h0 := h
  obtain ⟨B, r, G, s, FG, rfl, h1, h2, h3, h4, h5, h6⟩ := h
  have hl := hL.len
  have hBr : B ≠ r := h2.ne h1
  obtain ⟨gc, hGb⟩ := h4.blk
  have hGr : G ≠ r := h2.ne hGb
  have hFB : ¬ FG B := h4.not_ h1 (by decide)
  have hrl := h2.lt
  refine ⟨_, B, 149, 148, rfl, enters_of Tryz.func149 (by kernel_rfl) rfl, enters_of Tryz.func148 (by kernel_rfl) rfl, fun W => mV_Put _ W, fun W => mV_Del _ W, fun W k id b hid => ?_, fun W k id hid => ?_⟩
  · have hz := k.size
    have hB := h1.keeps k (fun h => h)
    have hM := h2.keeps k (fun h => h)
    rcases putF_cases L id b with ⟨hno, e2⟩ | ⟨hp, hb, hh, hlt⟩
    · refine Calls.mono (sieve_put_no_G hB hM id b hno) ?_
      rintro e w' ⟨rfl, k'⟩
      have := did_same ((show Fd w _ F L from .inr (.inl h0)).kd k) k' (putF L id b).1
      unfold DidF at this ⊢
      rw [e2]; exact this
    · rw [hp]
      refine Calls.mono (sieve_put_yes_G hB hM id b (by rw [hp]) FG (fun W1 W2 => ∃ F', Gd W2 G s (inL (L ++ [(id, b)])) (L ++ [(id, b)]).length F' ∧ ∀ x, F' x → FG x ∨ W1.heap.size ≤ x) (fun x hx => by have := h4.lt hx; omega) hFB h5 (fun W1 k1 => ?_)) ?_
      · refine Calls.mono (gd_put3 (h4.kd (k.trans k1)) h3 hl id b hb hh) ?_
        rintro e w' ⟨rfl, F', g1, g2, g3⟩
        exact ⟨rfl, g2, F', g1, g3⟩
      · rintro e w' ⟨rfl, W1, W2, q1, q2, ⟨F', q3, q4⟩, q5, q6⟩
        have hz1 := q1.size
        have hF'r : ¬ F' r := fun h => (q4 r h).elim h5 (fun h => by omega)
        refine ⟨rfl, fun x => x = B ∨ x = r ∨ x = G ∨ F' x, ⟨?_, ?_⟩, .inr (.inl ⟨B, r, G, s, F', rfl, ?_, q6, h3, q3.keeps q5 hGr (fun x hx e => hF'r (e ▸ hx)), hF'r, fun x => Iff.rfl⟩)⟩
        · exact ((kf q1).trans (q2.mono (fun x _ h => (h6 x).2 (.inr (.inr (.inr h)))))).trans (q5.mono (fun x _ h => (h6 x).2 (.inr (.inl h))))
        · rintro x (h | h | h | h)
          · exact .inl ((h6 x).2 (.inl h))
          · exact .inl ((h6 x).2 (.inr (.inl h)))
          · exact .inl ((h6 x).2 (.inr (.inr (.inl h))))
          · exact (q4 x h).imp (fun h => (h6 x).2 (.inr (.inr (.inr h)))) (fun h => by omega)
        · exact ((hB.keeps q1 (fun h => h)).keeps q2 hFB).keeps q5 hBr
  · have hz := k.size
    have hB := h1.keeps k (fun h => h)
    have hM := h2.keeps k (fun h => h)
    cases hh : hasB L id
    · rw [show delF L id = (141, L) by simp [delF, hh]]
      refine Calls.mono (sieve_del_no_G hB hM id hh) ?_
      rintro e w' ⟨rfl, g1, g2⟩
      exact ⟨rfl, F, Foot.same (g2.mono (fun x _ e => (h6 x).2 (.inr (.inl e)))), .inr (.inl ⟨B, r, G, s, FG, rfl, hB.keeps g2 hBr, g1, h3, (h4.kd k).keeps g2 hGr (fun x hx e => h5 (e ▸ hx)), h5, h6⟩)⟩
    · rw [show delF L id = (0, delB id L) by simp [delF, hh]]
      refine Calls.mono (sieve_del_yes_G hB hM id hh FG (fun W1 W2 => ∃ F', Gd W2 G s (inL (delB id L)) (delB id L).length F' ∧ ∀ x, F' x → FG x ∨ W1.heap.size ≤ x) (fun W1 k1 => ?_)) ?_
      · refine Calls.mono (gd_del3 ((h4.kd k).keeps k1 hGr (fun x hx e => h5 (e ▸ hx))) h3 id hh) ?_
        rintro e w' ⟨rfl, F', g1, g2, g3⟩
        exact ⟨rfl, g2, F', g1, g3⟩
      · rintro e w' ⟨rfl, W1, q1, q2, q3, F', q4, q5⟩
        have hz1 := q2.size
        have hF'r : ¬ F' r := fun h => (q5 r h).elim h5 (fun h => by omega)
        refine ⟨rfl, fun x => x = B ∨ x = r ∨ x = G ∨ F' x, ⟨?_, ?_⟩, .inr (.inl ⟨B, r, G, s, F', rfl, (hB.keeps q2 hBr).keeps q3 hFB, q1.keeps q3 h5, h3, q4, hF'r, fun x => Iff.rfl⟩)⟩
        · exact (q2.mono (fun x _ h => (h6 x).2 (.inr (.inl h)))).trans (q3.mono (fun x _ h => (h6 x).2 (.inr (.inr (.inr h)))))
        · rintro x (h | h | h | h)
          · exact .inl ((h6 x).2 (.inl h))
          · exact .inl ((h6 x).2 (.inr (.inl h)))
          · exact .inl ((h6 x).2 (.inr (.inr (.inl h))))
          · exact (q5 x h).imp (fun h => (h6 x).2 (.inr (.inr (.inr h)))) (fun h => by omega)
theorem chg_t (h : FdT w v F L) (hL : OkL L) : ∃ t B fP fD, Chg w v F L t B fP fD := by
  have h0 := h
  obtain ⟨B, r, T, FT, Lt, rfl, h1, h2, h3, h4, h5, h6, h7⟩ := h
  have hl := hL.len
  have hBr : B ≠ r := h2.ne h1
  have hrl := h2.lt
  have hBl := h1.lt
  have hlen : Lt.length ≤ L.length := by
    obtain ⟨_, _, _, _, _, hr, _⟩ := id h3
    exact tw_len h4 hr
  refine ⟨_, B, 149, 148, rfl, enters_of Tryz.func149 (by kernel_rfl) rfl, enters_of Tryz.func148 (by kernel_rfl) rfl, fun W => mV_Put _ W, fun W => mV_Del _ W, fun W k id b hid => ?_, fun W k id hid => ?_⟩
  · have hz := k.size
    have hB := h1.keeps k (fun h => h)
    have hM := h2.keeps k (fun h => h)
    rcases putF_cases L id b with ⟨hno, e2⟩ | ⟨hp, hb, hh, hlt⟩
    · refine Calls.mono (sieve_put_no_T hB hM id b hno) ?_
      rintro e w' ⟨rfl, k'⟩
      have := did_same ((show Fd w _ F L from .inr (.inr h0)).kd k) k' (putF L id b).1
      unfold DidF at this ⊢
      rw [e2]; exact this
    · rw [hp]
      have hpr : Tree.putR Lt id (toT b) = (0, Tree.putL id (toT b) Lt) := by
        have e1 : (toT b).right = true := by
          obtain ⟨_, _, g1, g2⟩ := hb
          show (decide (b.x0 ≤ b.x1) && decide (b.y0 ≤ b.y1)) = true
          simp [g1, g2]
        have e2 : Tree.hasL Lt id = false := by rw [tw_has h4, hh]
        unfold Tree.putR
        rw [if_neg (by simp [e1]), e2]
        simp
        omega
      have hel : Tree.El32 (id, toT b) := by
        obtain ⟨⟨a1, a2, a3, a4⟩, ⟨a5, a6, a7, a8⟩, _, _⟩ := hb
        unfold B0 at a1 a2 a3 a4 a5 a6 a7 a8
        exact ⟨hid, ⟨by simp only [toT]; omega, by simp only [toT]; omega⟩, ⟨by simp only [toT]; omega, by simp only [toT]; omega⟩, ⟨by simp only [toT]; omega, by simp only [toT]; omega⟩, ⟨by simp only [toT]; omega, by simp only [toT]; omega⟩⟩
      refine Calls.mono (sieve_put_yes_T hB hM id b (by rw [hp]) FT (fun W1 W2 => ∃ F', Tree.TrS W2 T F' (Tree.putL id (toT b) Lt) ∧ ∀ x, F' x → FT x ∨ W1.heap.size ≤ x) (fun x hx => by have := h3.inb x hx; omega) h5 h6 (fun W1 k1 => ?_)) ?_
      · refine Calls.mono (Tree.put_t T FT Lt id (toT b) W1 (h3.kd (k.trans k1)) hel) ?_
        rintro e w' ⟨rfl, F', g1, g2⟩
        rw [hpr] at g2 ⊢
        exact ⟨rfl, g1.1, F', g2, g1.2⟩
      · rintro e w' ⟨rfl, W1, W2, q1, q2, ⟨F', q3, q4⟩, q5, q6⟩
        have hz1 := q1.size
        have hF'r : ¬ F' r := fun h => (q4 r h).elim h6 (fun h => by omega)
        have hF'B : ¬ F' B := fun h => (q4 B h).elim h5 (fun h => by omega)
        refine ⟨rfl, fun x => x = B ∨ x = r ∨ F' x, ⟨?_, ?_⟩, .inr (.inr ⟨B, r, T, F', _, rfl, ?_, q6, q3.keeps q5 (fun x hx e => hF'r (e ▸ hx)), tw_put h4 id b, hF'B, hF'r, fun x => Iff.rfl⟩)⟩
        · exact ((kf q1).trans (q2.mono (fun x _ h => (h7 x).2 (.inr (.inr h))))).trans (q5.mono (fun x _ h => (h7 x).2 (.inr (.inl h))))
        · rintro x (h | h | h)
          · exact .inl ((h7 x).2 (.inl h))
          · exact .inl ((h7 x).2 (.inr (.inl h)))
          · exact (q4 x h).imp (fun h => (h7 x).2 (.inr (.inr h))) (fun h => by omega)
        · exact ((hB.keeps q1 (fun h => h)).keeps q2 h5).keeps q5 hBr
  · have hz := k.size
    have hB := h1.keeps k (fun h => h)
    have hM := h2.keeps k (fun h => h)
    cases hh : hasB L id
    · rw [show delF L id = (141, L) by simp [delF, hh]]
      refine Calls.mono (sieve_del_no_T hB hM id hh) ?_
      rintro e w' ⟨rfl, g1, g2⟩
      exact ⟨rfl, F, Foot.same (g2.mono (fun x _ e => (h7 x).2 (.inr (.inl e)))), .inr (.inr ⟨B, r, T, FT, Lt, rfl, hB.keeps g2 hBr, g1, (h3.kd k).keeps g2 (fun x hx e => h6 (e ▸ hx)), h4, h5, h6, h7⟩)⟩
    · rw [show delF L id = (0, delB id L) by simp [delF, hh]]
      have hdr : Tree.delR Lt id = (0, Tree.delL id Lt) := by
        unfold Tree.delR
        rw [tw_has h4, hh]; rfl
      refine Calls.mono (sieve_del_yes_T hB hM id hh FT (fun W1 W2 => ∃ F', Tree.TrS W2 T F' (Tree.delL id Lt) ∧ ∀ x, F' x → FT x ∨ W1.heap.size ≤ x) (fun W1 k1 => ?_)) ?_
      · refine Calls.mono (Tree.del_t T FT Lt id W1 ((h3.kd k).keeps k1 (fun x hx e => h6 (e ▸ hx))) hid) ?_
        rintro e w' ⟨rfl, F', g1, g2⟩
        rw [hdr] at g2 ⊢
        exact ⟨rfl, g1.1, F', g2, g1.2⟩
      · rintro e w' ⟨rfl, W1, q1, q2, q3, F', q4, q5⟩
        have hz1 := q2.size
        have hF'r : ¬ F' r := fun h => (q5 r h).elim h6 (fun h => by omega)
        have hF'B : ¬ F' B := fun h => (q5 B h).elim h5 (fun h => by omega)
        refine ⟨rfl, fun x => x = B ∨ x = r ∨ F' x, ⟨?_, ?_⟩, .inr (.inr ⟨B, r, T, F', _, rfl, (hB.keeps q2 hBr).keeps q3 h5, q1.keeps q3 h6, q4, tw_del h4 id, hF'B, hF'r, fun x => Iff.rfl⟩)⟩
        · exact (q2.mono (fun x _ h => (h7 x).2 (.inr (.inl h)))).trans (q3.mono (fun x _ h => (h7 x).2 (.inr (.inr h))))
        · rintro x (h | h | h)
          · exact .inl ((h7 x).2 (.inl h))
          · exact .inl ((h7 x).2 (.inr (.inl h)))
          · exact (q5 x h).imp (fun h => (h7 x).2 (.inr (.inr h))) (fun h => by omega)
theorem Fd.chg (h : Fd w v F L) (hL : OkL L) : ∃ t B fP fD, Chg w v F L t B fP fD := by
  rcases h with h | h | h
  · exact chg_s h hL
  · exact chg_g h hL
  · exact chg_t h hL
end
end Fi
end Go.Proofs.YtdbpfbokfmpgcaaGreat
