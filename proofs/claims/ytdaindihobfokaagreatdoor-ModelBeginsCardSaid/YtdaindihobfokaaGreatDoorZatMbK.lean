/-
MbK: the package's Begins: the lists by epochs.
-/
import Derived.Test.YtdaindihobfokaaGreatDoorZapMbI
import Derived.Test.YtdaindihobfokaaGreatDoorZasGmMGmAGmBGmC
import Derived.Test.YtdaindihobfokaaGreatDoorZaqDrDs
import Derived.Maps.OwnOps
namespace Go.Proofs.YtdaindihobfokaaGreatDoor
open Go.RowKit
set_option linter.unusedVariables false
set_option linter.unusedSimpArgs false
set_option linter.ambiguousOpen false
attribute [local go_sem] Oper.semAt_some Mb.run_store_float
namespace Mb
open Mem Dr
open Gm (SE SlM RdM Rd MapL kid lookK setK kvE viewE valA addC keyid)
theorem zero_sl (W : World) : (zeroValue 22).run Tryz.prog W = .ok (.slice none 0 0) W := by kernel_rfl
theorem look_m {W : World} {r : Nat} {L : List (Nat × Value)} (h : MapL kid W r L) (k : Nat) : (Instr.lookup 37 (.map (some r)) (.int .u32 (k : Int)) false).run Tryz.prog W = .ok ((lookK k L).getD (.slice none 0 0)) W := by
  have := h.look keyid Tryz.underlying37 zero_sl k false
  simpa [kid] using this
/-- what the first loop has laid -/
structure Laid (w wr : World) (r : Nat) (M : List (SE Pk)) (L : List Pk) : Prop where
  map : SlM 35 11 pkc wr r M
  vals : ∀ k, valA k (viewE M) = ofL L k
  keeps : Keeps (fun _ => False) w wr
  own : ∀ k, Gm.Own M k → w.heap.size ≤ k
  new : w.heap.size ≤ r
theorem Laid.kd {w wr wr' : World} {r : Nat} {M : List (SE Pk)} {L : List Pk} (h : Laid w wr r M L) (k : Keeps (fun _ => False) wr wr') : Laid w wr' r M L := ⟨h.map.kd k, h.vals, h.keeps.trans k, h.own, h.new⟩
theorem Laid.val {w wr : World} {r : Nat} {M : List (SE Pk)} {L : List Pk} (h : Laid w wr r M L) (k : Nat) : ∃ la lc, (lookK k (kvE M)).getD (.slice none 0 0) = .slice la (ofL L k).length lc := by
  obtain ⟨v, V, h1, h2, h3, -⟩ := h.map.add keyid Tryz.underlying37 k (⟨0, 0, 0, 0, 0, 0, 0, 0, 0, 0, 0⟩ : Pk)
  rw [h1]
  rw [h.vals] at h2
  subst h2
  rcases h3.2 with ⟨rfl, h0⟩ | ⟨g, cap, cur, rfl, _⟩
  · exact ⟨none, 0, by rw [h0]⟩
  · exact ⟨_, _, rfl⟩
/-- one packet more under its epoch: an append, an update -/
theorem Laid.add {w wr : World} {r : Nat} {M : List (SE Pk)} {L : List Pk} (h : Laid w wr r M L) (p : Pk) {la : Option Addr} {lc : Nat} (hv : (lookK p.ep (kvE M)).getD (.slice none 0 0) = .slice la (ofL L p.ep).length lc) :
    wr.ownsRow 0 35 11 (.slice la (ofL L p.ep).length lc) (ofL L p.ep).length ((ofL L p.ep).flatMap pkc) ∧
    (∀ k, (Value.slice la (ofL L p.ep).length lc).ownBlock = some k → Gm.Own M k) ∧ ∀ w2 g cap, wr.grownBy w2 (Value.slice la (ofL L p.ep).length lc).ownBlock → w2.ownsRow 0 35 11 (.slice (some ⟨g, 0, none⟩) ((ofL L p.ep).length + 1) cap) ((ofL L p.ep).length + 1) ((ofL L p.ep ++ [p]).flatMap pkc) → (la = some ⟨g, 0, none⟩ ∨ g = wr.heap.size) →
      ∃ w3 M', (Instr.mapUpdate 37 (.map (some r)) (.int .u32 (p.ep : Int)) (.slice (some ⟨g, 0, none⟩) ((ofL L p.ep).length + 1) cap)).run Tryz.prog w2 = .ok () w3 ∧ Laid w w3 r M' (L ++ [p]) ∧ Keeps (fun k => k = r) w2 w3 := by
  obtain ⟨v, V, h1, h2, h3, h4, h5⟩ := h.map.add keyid Tryz.underlying37 p.ep p
  rw [hv] at h1
  subst h1
  rw [h.vals] at h2
  subst h2
  refine ⟨h3, h4, fun w2 g cap hg ho ha => ?_⟩
  rw [List.flatMap_append] at ho
  obtain ⟨w3, M', e1, e2, e3, e4, e5⟩ := h5 w2 _ hg (by simpa using ho) (by
    rcases ha with rfl | rfl
    · exact .inl rfl
    · exact .inr rfl)
  refine ⟨w3, M', e1, ⟨e3, fun k => ?_, ?_, ?_, h.new⟩, e2⟩
  · rw [e4, Gm.valA_add, h.vals]
    unfold ofL flt
    rw [List.filter_append]
    by_cases hk : k = p.ep
    · subst hk; simp
    · rw [if_neg hk]; simp [Ne.symm hk]
  · have k1 : Keeps (fun k => some k = (Value.slice la (ofL L p.ep).length lc).ownBlock) wr w2 := Keeps.of_grown hg
    have k2 := (h.keeps.then (S := fun _ => False) (k1) (fun i hi e => by
      have := h.own i (h4 i e.symm)
      omega))
    exact k2.then e2 (fun i hi e => by have := h.new; omega)
  · intro k hk
    rcases e5 k hk with h6 | rfl
    · exact h.own k h6
    · exact h.keeps.size
/-- a truth value is handed back, just if -/
def Says (p : Prop) (e : Ending) : Prop := ∃ r : Bool, e = .returned (.bool r) ∧ (r = true ↔ p)
theorem makeM (W : World) : (Instr.makeMap 37 none).run Tryz.prog W = .ok (.map (some W.heap.size)) (W.alloc (.map #[] 0)) := by kernel_rfl
set_option maxHeartbeats 8000000 in
set_option maxRecDepth 100000 in
theorem begins_t (w : World) (a b : Option Addr) (n m c d : Nat) (A B : List Pk) (h1 : Pl w (.slice a n c) A) (h2 : Pl w (.slice b m d) B) (hn : n = A.length) (hm : m = B.length) (hl : n ≤ 4611686018427387904) (hl2 : (m + m / 4 + 512) * 64 ≤ 281474976710656)
    (hA : ∀ p ∈ A, p.ep < 4294967296) : Calls Tryz.prog 4 #[.slice a n c, .slice b m d] w fun e w' => Says (rises (·.ep) A = true ∧ go (·.ep) likeB A (flt (·.ep) B) = true) e ∧ Keeps (fun _ => False) w w' := by
  have HA := Lib.hid h1
  have HB := Lib.hid h2
  have HN := Lib.hid (And.intro hn (And.intro hm (And.intro hl hl2)))
  have HE := Lib.hid hA
  have HSR := Lib.hid (sorted_t w a n c A h1 hn hl hA)
  have hmm := makeM
  obtain ⟨sv, hsv⟩ : ∃ sv, sv = rises (·.ep) A := ⟨_, rfl⟩
  rw [← hsv] at HSR ⊢
  have hnI : (n : Int) ≤ 4611686018427387904 := by omega
  have hmI : (m : Int) ≤ 4611686018427387904 := by omega
  clear h1 h2 hn hm hl hA hl2 hsv
  go_enter Tryz.func4, Tryz.ntmps4
  cases sv with
  | false =>
    go_wp2_with (go_at_call 9; (with_reducible refine HSR.out.mono ?_); rintro e w1 ⟨rfl, hk⟩; have K1 := Lib.hid hk; clear hk)
    go_ret
    exact ⟨⟨false, rfl, ⟨fun h => (by cases h), fun h => (by cases h.1)⟩⟩, K1.out⟩
  | true =>
    go_wp2_with (go_at_call 9; (with_reducible refine HSR.out.mono ?_); rintro e w1 ⟨rfl, hk⟩; have K1 := Lib.hid hk; clear hk)
    have hr0 : Laid w (w1.alloc (.map #[] 0)) w1.heap.size [] (B.take 0) := ⟨SlM.new w1, fun k => rfl, K1.out.alloc _, fun k hk => (by obtain ⟨e, he, _⟩ := hk; simp at he), K1.out.size⟩
    have HR0 := Lib.hid hr0
    clear hr0
    obtain ⟨r, hr⟩ : ∃ r, r = w1.heap.size := ⟨_, rfl⟩
    obtain ⟨w0, hw0⟩ : ∃ w0, w0 = w1.alloc (.map #[] 0) := ⟨_, rfl⟩
    rw [← hw0, ← hr] at HR0
    rw [← hw0, ← hr]
    clear hw0 hr hmm
    go_loopw [17] (fun q wr => ∃ (i : Nat) (M : List (SE Pk)), q = .int .i64 (i : Int) ∧ i ≤ m ∧ Laid w wr r M (B.take i)) (fun q _ => m - (intOf q).toNat)
    case atStart => exact ⟨0, [], rfl, Nat.zero_le _, HR0.out⟩
    case round =>
      obtain ⟨i, M, rfl, hi, hL⟩ := hrel
      have HL := Lib.hid hL
      by_cases hlt : i < m
      · have hltI : (i : Int) < (m : Int) := by omega
        have e2 : IntKind.i64.wrap ((i : Int) + 1) = (i : Int) + 1 := IntWalk.i64_in _ (by omega)
        obtain ⟨p, hp⟩ : ∃ p, B[i]? = some p := ⟨_, List.getElem?_eq_getElem (by have := HN.out; omega)⟩
        obtain ⟨g, off, rfl, c0, c1, c2, c3, c4, c5, c6, c7, c8, c9, c10⟩ := (HB.out.kd hL.keeps).row hp
        obtain ⟨la, lc, hlv⟩ := hL.val p.ep
        have HT := Lib.hid (take_at hp)
        obtain ⟨l, hle⟩ : ∃ l, l = ofL (B.take i) p.ep := ⟨_, rfl⟩
        obtain ⟨n1, hn1⟩ : ∃ n1, n1 = l.length := ⟨_, rfl⟩
        have HV := Lib.hid (And.intro hlv (And.intro hle hn1))
        rw [← hle, ← hn1] at hlv
        have hlk := fun (W : World) (h : MapL kid W r (kvE M)) => look_m h p.ep
        rw [hlv] at hlk
        have HLK := Lib.hid hlk
        have hmm : (n1 + n1 / 4 + 512) * 64 ≤ 281474976710656 := fits_le (show n1 ≤ m by have := of_le (B.take i) p.ep; have := List.length_take_le i B; rw [hn1, hle]; omega) HN.out.2.2.2
        have HF := Lib.hid (And.intro (fits_max hmm) hmm)
        have hadd := fun W (k : Keeps (fun _ => False) wr W) => (HL.out.kd k).add p HV.out.1
        rw [← HV.out.2.1, ← HV.out.2.2] at hadd
        have HADD := Lib.hid hadd
        clear hlk hlv hle hn1 hmm hL hp hadd
        go_wp2
        obtain ⟨B7, hB7⟩ : ∃ B7, B7 = wr.heap.size := ⟨_, rfl⟩
        obtain ⟨w7, hw7⟩ : ∃ w7, w7 = wr.alloc (.cells #[.int .i64 p.slot, .int .u32 (p.ep : Int), .int .u64 p.num, .int .u8 p.kd, .int .u32 p.ob, .int .u32 p.fe, .int .u32 p.nu, .int .i32 p.x, .int .i32 p.y, .int .u32 p.ck, .float .f64 p.sp] 35) := ⟨_, rfl⟩
        have HK7 := Lib.hid (show Keeps (fun _ => False) wr w7 from by rw [hw7]; (repeat (first | exact Keeps.refl _ _ | refine Keeps.alloc ?_ _ | refine Keeps.drew ?_)))
        have HB7 := Lib.hid (show Blk w7 B7 35 (pkc p) from by rw [hw7, hB7]; exact Blk.new wr 35 (pkc p))
        have HN7 := Lib.hid (show ∀ k, Gm.Own M k ∨ k = r → B7 ≠ k from fun k h e => by
          rcases h with h | h
          · have := HL.out.map.own_lt h; omega
          · have := HL.out.map.lt; omega)
        (try rw [← hw7])
        (try rw [← hB7])
        clear hw7 hB7
        apply join_k
        refine wp_region_held_drew (S := fun W => (∀ i : Nat, W.cell? ⟨B7, i, none⟩ = ([.int .i64 p.slot, .int .u32 (p.ep : Int), .int .u64 p.num, .int .u8 p.kd, .int .u32 p.ob, .int .u32 p.fe, .int .u32 p.nu, .int .i32 p.x, .int .i32 p.y, .int .u32 p.ck, .float .f64 p.sp] : List Value)[i]?)) (by kernel_rfl) (by exact (HB7.out).cell) (fun hS0 => ?_)
        refine tK 0 hS0 ?_
        refine tK 1 hS0 ?_
        refine tK 2 hS0 ?_
        refine tK 3 hS0 ?_
        refine tK 4 hS0 ?_
        refine tK 5 hS0 ?_
        refine tK 7 hS0 ?_
        refine anyH_two 6 8 (by kernel_rfl) rfl (by rfl) rfl (by rfl) (fun K hK => ?_) (fun K hK => ?_)
        · have q6 := HLK.out w7.drew ((HL.out.map.map.keeps HK7.out (fun h => h)).drew)
          go_simp
          refine hK _ _ hS0 ?_
          clear hK K
          try simp only [y0, y1, y2, y3, y4, y5, y6]
          refine anyH_one 8 (by kernel_rfl) rfl (by rfl) (fun K hK => ?_)
          go_simp
          refine hK _ _ ((HB7.out.drew.alloc _).cell) ?_
          clear hK K
          try simp only [y0, y1, y2, y3, y4, y5, y6]
          refine anyH_one 9 (by kernel_rfl) rfl (by rfl) (fun K hK => ?_)
          have hadd := HADD.out (w7.drew.alloc (.cells #[.int .i64 p.slot, .int .u32 (p.ep : Int), .int .u64 p.num, .int .u8 p.kd, .int .u32 p.ob, .int .u32 p.fe, .int .u32 p.nu, .int .i32 p.x, .int .i32 p.y, .int .u32 p.ck, .float .f64 p.sp] 35)) (HK7.out.drew.alloc _)
          refine step_app_g Tryz.underlying22 pkI (by decide) (fun _ => rfl) pk_one (.tmp 27) (.tmp 29) rfl 0 l n1 la lc rfl hadd.1 p w7.heap.size rfl (by exact Mem.news_new w7.drew _ (pkc p)) HF.out.1 (by decide) HF.out.2 (Nat.zero_le _) ?_
          intro g' lc' w5 hown hgrow hat
          obtain ⟨w3, M', hrun, hL3, hk3⟩ := hadd.2.2 w5 g' lc' hgrow hown hat
          have hB5 : Blk w5 B7 35 (pkc p) := (HB7.out.drew.alloc _).grown hgrow (fun e => HN7.out B7 (.inl (hadd.2.1 B7 e.symm)) rfl)
          have hB3 : Blk w3 B7 35 (pkc p) := hB5.keeps hk3 (fun e => HN7.out r (.inr rfl) e)
          have HL3 := Lib.hid (And.intro hL3 hB3)
          refine hK _ _ hB5.cell ?_
          clear hK K hown hgrow hat hadd hL3 hB3 hB5 hk3
          try simp only [y0, y1, y2, y3, y4, y5, y6]
          refine anyH_one 10 (by kernel_rfl) rfl (by rfl) (fun K hK => ?_)
          go_simp
          refine hK _ _ HL3.out.2.cell ?_
          clear hK K
          try simp only [y0, y1, y2, y3, y4, y5, y6]
          refine wpAnyH_done (by kernel_rfl) ?_ _
          clear hrun
          go_wp2
          exact ⟨⟨i + 1, M', rfl, by omega, by rw [HT.out]; exact HL3.out.1⟩, by simp only [intOf]; omega⟩
        · go_simp
          refine hK _ _ ((HB7.out.alloc (.cells #[.int .i64 p.slot, .int .u32 (p.ep : Int), .int .u64 p.num, .int .u8 p.kd, .int .u32 p.ob, .int .u32 p.fe, .int .u32 p.nu, .int .i32 p.x, .int .i32 p.y, .int .u32 p.ck, .float .f64 p.sp] 35)).drew.cell) ?_
          clear hK K
          try simp only [y0, y1, y2, y3, y4, y5, y6]
          refine anyH_one 6 (by kernel_rfl) rfl (by rfl) (fun K hK => ?_)
          have q6 := HLK.out (w7.alloc (.cells #[.int .i64 p.slot, .int .u32 (p.ep : Int), .int .u64 p.num, .int .u8 p.kd, .int .u32 p.ob, .int .u32 p.fe, .int .u32 p.nu, .int .i32 p.x, .int .i32 p.y, .int .u32 p.ck, .float .f64 p.sp] 35)).drew ((HL.out.map.map.keeps HK7.out (fun h => h)).alloc _).drew
          go_simp
          refine hK _ _ ((HB7.out.alloc _).drew.cell) ?_
          clear hK K
          try simp only [y0, y1, y2, y3, y4, y5, y6]
          refine anyH_one 9 (by kernel_rfl) rfl (by rfl) (fun K hK => ?_)
          have hadd := HADD.out (w7.alloc (.cells #[.int .i64 p.slot, .int .u32 (p.ep : Int), .int .u64 p.num, .int .u8 p.kd, .int .u32 p.ob, .int .u32 p.fe, .int .u32 p.nu, .int .i32 p.x, .int .i32 p.y, .int .u32 p.ck, .float .f64 p.sp] 35)).drew (HK7.out.alloc _).drew
          refine step_app_g Tryz.underlying22 pkI (by decide) (fun _ => rfl) pk_one (.tmp 27) (.tmp 29) rfl 0 l n1 la lc rfl hadd.1 p w7.heap.size rfl (by exact Mem.news_new w7 _ (pkc p)) HF.out.1 (by decide) HF.out.2 (Nat.zero_le _) ?_
          intro g' lc' w5 hown hgrow hat
          obtain ⟨w3, M', hrun, hL3, hk3⟩ := hadd.2.2 w5 g' lc' hgrow hown hat
          have hB5 : Blk w5 B7 35 (pkc p) := ((HB7.out.alloc _).drew).grown hgrow (fun e => HN7.out B7 (.inl (hadd.2.1 B7 e.symm)) rfl)
          have hB3 : Blk w3 B7 35 (pkc p) := hB5.keeps hk3 (fun e => HN7.out r (.inr rfl) e)
          have HL3 := Lib.hid (And.intro hL3 hB3)
          refine hK _ _ hB5.cell ?_
          clear hK K hown hgrow hat hadd hL3 hB3 hB5 hk3
          try simp only [y0, y1, y2, y3, y4, y5, y6]
          refine anyH_one 10 (by kernel_rfl) rfl (by rfl) (fun K hK => ?_)
          go_simp
          refine hK _ _ HL3.out.2.cell ?_
          clear hK K
          try simp only [y0, y1, y2, y3, y4, y5, y6]
          refine wpAnyH_done (by kernel_rfl) ?_ _
          clear hrun
          go_wp2
          exact ⟨⟨i + 1, M', rfl, by omega, by rw [HT.out]; exact HL3.out.1⟩, by simp only [intOf]; omega⟩
      · obtain rfl : i = m := by omega
        have hL2 : Laid w wr r M B := by
          have h5 := hL
          rw [HN.out.2.1, List.take_length] at h5
          exact h5
        have hrd : RdM 11 pkc wr r (flt (·.ep) B) := by
          have := hL2.map.rd (fun _ => rfl)
          rw [show (fun k => valA k (viewE M)) = flt (·.ep) B from funext hL2.vals] at this
          exact this
        have HR1 := Lib.hid (And.intro hrd (And.intro hL2.keeps hL2.new))
        clear hL2 hrd hL HL HB HR0
        go_wp2
        go_loopw [34] (fun q wr2 => ∃ (j : Nat) (st : Nat → List Pk), q = .int .i64 (j : Int) ∧ j ≤ n ∧ RdM 11 pkc wr2 r st ∧ Keeps (fun _ => False) w wr2 ∧ go (·.ep) likeB (A.drop j) st = go (·.ep) likeB A (flt (·.ep) B)) (fun q _ => n - (intOf q).toNat)
        case atStart => exact ⟨0, _, rfl, Nat.zero_le _, HR1.out.1, HR1.out.2.1, by rw [List.drop_zero]⟩
        case round =>
          obtain ⟨j, st, rfl, hj, hrd, hk, hgo⟩ := hrel
          have HRD := Lib.hid hrd
          have HKR := Lib.hid hk
          have HGO := Lib.hid hgo
          by_cases hlt : j < n
          · have hltI : (j : Int) < (n : Int) := by omega
            have e2 : IntKind.i64.wrap ((j : Int) + 1) = (j : Int) + 1 := IntWalk.i64_in _ (by omega)
            obtain ⟨p, hp⟩ : ∃ p, A[j]? = some p := ⟨_, List.getElem?_eq_getElem (by have := HN.out; omega)⟩
            obtain ⟨g, off, rfl, c0, c1, c2, c3, c4, c5, c6, c7, c8, c9, c10⟩ := (HA.out.kd hk).row hp
            have HD := Lib.hid (show A.drop j = p :: A.drop (j + 1) from by
              obtain ⟨h1, h2⟩ := List.getElem?_eq_some_iff.1 hp
              rw [← h2]; exact List.drop_eq_getElem_cons h1)
            obtain ⟨LM, hM, hv⟩ := hrd
            have hvp := hv p.ep
            have hlk := look_m (hM.alloc (.cells #[.int .i64 p.slot, .int .u32 (p.ep : Int), .int .u64 p.num, .int .u8 p.kd, .int .u32 p.ob, .int .u32 p.fe, .int .u32 p.nu, .int .i32 p.x, .int .i32 p.y, .int .u32 p.ck, .float .f64 p.sp] 35)) p.ep
            obtain ⟨sl, hsl⟩ : ∃ sl, sl = st p.ep := ⟨_, rfl⟩
            rw [← hsl] at hvp
            cases sl with
            | nil =>
              obtain ⟨va, vc, ev, _, _⟩ := hvp
              rw [ev] at hlk
              simp only [List.length_nil] at hlk
              have HF := Lib.hid (show go (·.ep) likeB (A.drop j) st = false from by rw [HD.out, go, ← hsl])
              clear hM hv hsl ev hp hk hgo
              go_wp2
              apply join_one
              · refine wp_region_held_drew (S := fun W => True) (by kernel_rfl) trivial (fun hS0 => ?_)
                refine tK 0 hS0 ?_
                refine tK 1 hS0 ?_
                refine tK 2 hS0 ?_
                refine tK 3 hS0 ?_
                refine sK 4 hS0 ?_
                refine sK 5 hS0 ?_
                refine sK 6 hS0 ?_
                refine sK 7 hS0 ?_
                refine sK 8 hS0 ?_
                refine sK 9 hS0 ?_
                refine tK 10 hS0 ?_
                (refine wpAnyH_done (by kernel_rfl) ?_ _; exact ⟨rfl, rfl⟩)
              go_wp2
              go_ret
              refine ⟨⟨false, rfl, ⟨fun h => (by cases h), fun h => ?_⟩⟩, (HKR.out.alloc _).drew⟩
              rw [← HGO.out, HF.out] at h
              cases h
            | cons q t =>
              obtain ⟨va, vc, ev, hcap, hel⟩ := hvp
              obtain ⟨g', off', rfl, hne, hc⟩ := hel 0 q rfl
              rw [ev] at hlk
              obtain ⟨tl, htl⟩ : ∃ tl, tl = t.length := ⟨_, rfl⟩
              simp only [List.length_cons, ← htl] at hlk hcap
              have HC := Lib.hid (fun W (k : Keeps (fun _ => False) wr W) (j : Nat) u (h : (pkc q)[j]? = some u) => (by have := k.cell (hc j u h) (fun h => h); rwa [Nat.zero_mul, Nat.add_zero] at this : W.cell? ⟨g', off' + j, none⟩ = some u))
              obtain ⟨lv, hlv⟩ : ∃ lv, lv = likeB p q := ⟨_, rfl⟩
              have HF := Lib.hid (show go (·.ep) likeB (A.drop j) st = (lv && go (·.ep) likeB (A.drop (j + 1)) (fun k => if k = p.ep then t else st k)) from by rw [HD.out, go, ← hsl, hlv])
              have hz := like_t p q
              rw [← hlv] at hz
              have HZ := Lib.hid hz
              have HT := Lib.hid (And.intro htl (hv p.ep))
              rw [ev, ← hsl, show (q :: t).length = tl + 1 by rw [htl]; rfl] at HT
              have HCAP := Lib.hid hcap
              have hcapI : ((tl : Int) + 1) ≤ (vc : Int) := by omega
              have htn : ((tl : Int) + 1 == 0) = false := beq_eq_false_iff_ne.2 (by omega)
              clear hM hv hsl ev hp hk hgo hel hc hlv hz htl hcap
              go_wp2
              obtain ⟨B9, hB9⟩ : ∃ B9, B9 = wr.heap.size := ⟨_, rfl⟩
              obtain ⟨w9, hw9⟩ : ∃ w9, w9 = wr.alloc (.cells #[.int .i64 p.slot, .int .u32 (p.ep : Int), .int .u64 p.num, .int .u8 p.kd, .int .u32 p.ob, .int .u32 p.fe, .int .u32 p.nu, .int .i32 p.x, .int .i32 p.y, .int .u32 p.ck, .float .f64 p.sp] 35) := ⟨_, rfl⟩
              have HK9 := Lib.hid (show Keeps (fun _ => False) wr w9 from by rw [hw9]; (repeat (first | exact Keeps.refl _ _ | refine Keeps.alloc ?_ _ | refine Keeps.drew ?_)))
              have HB9 := Lib.hid (show Blk w9 B9 35 (pkc p) from by rw [hw9, hB9]; exact Blk.new wr 35 (pkc p))
              have HN9 := Lib.hid (show B9 ≠ r from by have := HRD.out.lt; omega)
              (try rw [← hw9])
              (try rw [← hB9])
              clear hw9 hB9
              have HS9 := Lib.hid (show ∀ W, Keeps (fun _ => False) w9 W → ((∀ i : Nat, W.cell? ⟨B9, i, none⟩ = ([.int .i64 p.slot, .int .u32 (p.ep : Int), .int .u64 p.num, .int .u8 p.kd, .int .u32 p.ob, .int .u32 p.fe, .int .u32 p.nu, .int .i32 p.x, .int .i32 p.y, .int .u32 p.ck, .float .f64 p.sp] : List Value)[i]?) ∧ W.cell? ⟨g', off', none⟩ = some (.int .i64 q.slot) ∧ W.cell? ⟨g', off' + 1, none⟩ = some (.int .u32 (q.ep : Int)) ∧ W.cell? ⟨g', off' + 2, none⟩ = some (.int .u64 q.num) ∧ W.cell? ⟨g', off' + 3, none⟩ = some (.int .u8 q.kd) ∧ W.cell? ⟨g', off' + 4, none⟩ = some (.int .u32 q.ob) ∧ W.cell? ⟨g', off' + 5, none⟩ = some (.int .u32 q.fe) ∧ W.cell? ⟨g', off' + 6, none⟩ = some (.int .u32 q.nu) ∧ W.cell? ⟨g', off' + 7, none⟩ = some (.int .i32 q.x) ∧ W.cell? ⟨g', off' + 8, none⟩ = some (.int .i32 q.y) ∧ W.cell? ⟨g', off' + 9, none⟩ = some (.int .u32 q.ck) ∧ W.cell? ⟨g', off' + 10, none⟩ = some (.float .f64 q.sp)) from fun W k => ⟨(HB9.out.keeps k (fun h => h)).cell, HC.out W (HK9.out.trans k) 0 _ rfl, HC.out W (HK9.out.trans k) 1 _ rfl, HC.out W (HK9.out.trans k) 2 _ rfl, HC.out W (HK9.out.trans k) 3 _ rfl, HC.out W (HK9.out.trans k) 4 _ rfl, HC.out W (HK9.out.trans k) 5 _ rfl, HC.out W (HK9.out.trans k) 6 _ rfl, HC.out W (HK9.out.trans k) 7 _ rfl, HC.out W (HK9.out.trans k) 8 _ rfl, HC.out W (HK9.out.trans k) 9 _ rfl, HC.out W (HK9.out.trans k) 10 _ rfl⟩)
              clear hlk
              apply join_w (fun W => Keeps (fun _ => False) w9 W)
              · refine wp_region_held_drew (S := fun W => ((∀ i : Nat, W.cell? ⟨B9, i, none⟩ = ([.int .i64 p.slot, .int .u32 (p.ep : Int), .int .u64 p.num, .int .u8 p.kd, .int .u32 p.ob, .int .u32 p.fe, .int .u32 p.nu, .int .i32 p.x, .int .i32 p.y, .int .u32 p.ck, .float .f64 p.sp] : List Value)[i]?) ∧ W.cell? ⟨g', off', none⟩ = some (.int .i64 q.slot) ∧ W.cell? ⟨g', off' + 1, none⟩ = some (.int .u32 (q.ep : Int)) ∧ W.cell? ⟨g', off' + 2, none⟩ = some (.int .u64 q.num) ∧ W.cell? ⟨g', off' + 3, none⟩ = some (.int .u8 q.kd) ∧ W.cell? ⟨g', off' + 4, none⟩ = some (.int .u32 q.ob) ∧ W.cell? ⟨g', off' + 5, none⟩ = some (.int .u32 q.fe) ∧ W.cell? ⟨g', off' + 6, none⟩ = some (.int .u32 q.nu) ∧ W.cell? ⟨g', off' + 7, none⟩ = some (.int .i32 q.x) ∧ W.cell? ⟨g', off' + 8, none⟩ = some (.int .i32 q.y) ∧ W.cell? ⟨g', off' + 9, none⟩ = some (.int .u32 q.ck) ∧ W.cell? ⟨g', off' + 10, none⟩ = some (.float .f64 q.sp))) (by kernel_rfl) (HS9.out _ (Keeps.refl _ _).drew) (fun hS0 => ?_)
                refine tK 0 hS0 ?_
                refine tK 1 hS0 ?_
                refine tK 2 hS0 ?_
                refine tK 3 hS0 ?_
                refine tK 4 hS0 ?_
                refine tK 5 hS0 ?_
                refine tK 6 hS0 ?_
                refine tK 7 hS0 ?_
                refine anyH_one 8 (by kernel_rfl) rfl (by rfl) (fun K hK => ?_)
                go_simp
                (with_reducible refine (HZ.out _).mono ?_)
                rintro e w2 ⟨rfl, hk2⟩
                have HK2 := Lib.hid (Keeps.trans (show Keeps (fun _ => False) w9 _ from by (repeat (first | exact Keeps.refl _ _ | refine Keeps.alloc ?_ _ | refine Keeps.drew ?_))) hk2)
                clear hk2
                have hS1 := HS9.out _ HK2.out
                refine hK _ _ hS1 ?_
                clear hK K hS0
                try simp only [y0, y1, y2, y3, y4, y5, y6]
                refine tK 9 hS1 ?_
                refine tK 10 hS1 ?_
                refine wpAnyH_done (by kernel_rfl) ?_ _
                exact ⟨rfl, HK2.out⟩
              intro w2 hk2
              have HK2 := Lib.hid hk2
              clear hk2
              cases lv with
              | false =>
                go_wp2
                go_ret
                refine ⟨⟨false, rfl, ⟨fun h => (by cases h), fun h => ?_⟩⟩, HKR.out.trans (HK9.out.trans HK2.out)⟩
                rw [← HGO.out, HF.out] at h
                cases h
              | true =>
                go_wp2
                have h1l : (1 : Int) ≤ (tl : Int) + 1 := by omega
                have HRD2 := Lib.hid (HRD.out.kd (HK9.out.trans HK2.out.drew))
                have HVD := Lib.hid (HT.out.2.keeps (HK9.out.trans HK2.out.drew) (fun k _ h => h))
                by_cases hvc : vc = 1
                · have HNX := Lib.hid (HRD2.out.next keyid Tryz.underlying37 p.ep (v := .slice (some ⟨g', off', none⟩) tl 0) (t := t) (by
                    have := HVD.out.tail.2 hvc
                    subst this
                    have e0 := HT.out.1
                    simp only [List.length_nil] at e0
                    rw [e0]
                    exact ⟨_, _, rfl, Nat.le_refl _, fun i p hp => by simp at hp⟩))
                  subst hvc
                  apply join_k
                  refine wp_region_held_drew (S := fun W => (∀ i : Nat, W.cell? ⟨B9, i, none⟩ = ([.int .i64 p.slot, .int .u32 (p.ep : Int), .int .u64 p.num, .int .u8 p.kd, .int .u32 p.ob, .int .u32 p.fe, .int .u32 p.nu, .int .i32 p.x, .int .i32 p.y, .int .u32 p.ck, .float .f64 p.sp] : List Value)[i]?)) (by kernel_rfl) ((HB9.out.keeps (HK2.out.drew) (fun h => h)).cell) (fun hS0 => ?_)
                  refine tK 0 hS0 ?_
                  refine tK 1 hS0 ?_
                  refine tK 2 hS0 ?_
                  refine tK 3 hS0 ?_
                  refine tK 4 hS0 ?_
                  refine anyH_one 5 (by kernel_rfl) rfl (by rfl) (fun K hK => ?_)
                  obtain ⟨w3, hrun, hrd3, hk3⟩ := HNX.out
                  have hb3 := (HB9.out.keeps HK2.out.drew (fun h => h)).keeps hk3 (fun e => HN9.out e)
                  have HR3 := Lib.hid (And.intro hrd3 (((HKR.out.trans HK9.out).trans HK2.out.drew).then hk3 (fun i hi e => by have := HR1.out.2.2; omega)))
                  clear hrd3 hk3
                  simp only [kid] at hrun
                  go_simp
                  refine hK _ _ hb3.cell ?_
                  clear hK K hrun hb3
                  try simp only [y0, y1, y2, y3, y4, y5, y6]
                  refine wpAnyH_done (by kernel_rfl) ?_ _
                  go_wp2
                  exact ⟨⟨j + 1, _, rfl, by omega, HR3.out.1, HR3.out.2, by rw [← HGO.out, HF.out]; rfl⟩, by simp only [intOf]; omega⟩
                · have HNX := Lib.hid (HRD2.out.next keyid Tryz.underlying37 p.ep (v := .slice (some ⟨g', off' + 11, none⟩) tl (vc - 1)) (t := t) (by
                    have := HVD.out.tail.1
                    rwa [← HT.out.1] at this))
                  apply join_k
                  refine wp_region_held_drew (S := fun W => (∀ i : Nat, W.cell? ⟨B9, i, none⟩ = ([.int .i64 p.slot, .int .u32 (p.ep : Int), .int .u64 p.num, .int .u8 p.kd, .int .u32 p.ob, .int .u32 p.fe, .int .u32 p.nu, .int .i32 p.x, .int .i32 p.y, .int .u32 p.ck, .float .f64 p.sp] : List Value)[i]?)) (by kernel_rfl) ((HB9.out.keeps (HK2.out.drew) (fun h => h)).cell) (fun hS0 => ?_)
                  refine tK 0 hS0 ?_
                  refine tK 1 hS0 ?_
                  refine tK 2 hS0 ?_
                  refine tK 3 hS0 ?_
                  refine tK 4 hS0 ?_
                  refine anyH_one 5 (by kernel_rfl) rfl (by rfl) (fun K hK => ?_)
                  obtain ⟨w3, hrun, hrd3, hk3⟩ := HNX.out
                  have hb3 := (HB9.out.keeps HK2.out.drew (fun h => h)).keeps hk3 (fun e => HN9.out e)
                  have HR3 := Lib.hid (And.intro hrd3 (((HKR.out.trans HK9.out).trans HK2.out.drew).then hk3 (fun i hi e => by have := HR1.out.2.2; omega)))
                  clear hrd3 hk3
                  simp only [kid] at hrun
                  go_simp
                  refine hK _ _ hb3.cell ?_
                  clear hK K hrun hb3
                  try simp only [y0, y1, y2, y3, y4, y5, y6]
                  refine wpAnyH_done (by kernel_rfl) ?_ _
                  go_wp2
                  exact ⟨⟨j + 1, _, rfl, by omega, HR3.out.1, HR3.out.2, by rw [← HGO.out, HF.out]; rfl⟩, by simp only [intOf]; omega⟩
          · obtain rfl : j = n := by omega
            have hend : go (·.ep) likeB A (flt (·.ep) B) = true := by
              rw [← HGO.out, HN.out.1, List.drop_length]; rfl
            have HE2 := Lib.hid hend
            clear hrd hk hgo hend
            go_wp2
            go_ret
            exact ⟨⟨true, rfl, ⟨fun _ => HE2.out, fun _ => rfl⟩⟩, HKR.out⟩
end Mb
end Go.Proofs.YtdaindihobfokaaGreatDoor
