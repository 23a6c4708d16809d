/-
  AmJ: a stale update is answered.
-/
import Derived.Test.YtldlkepagmmohaaGreatDoorAmI
namespace Go.Proofs.YtldlkepagmmohaaGreatDoor
open Go.RowKit
set_option linter.unusedVariables false
set_option linter.unusedSimpArgs false
attribute [local go_sem] Oper.semAt_some
namespace Am
open Mem
theorem nw_fit : 0 + nowL.toArray.size ≤ zeroT.length := by simp
theorem nw_one : nowL.toArray.all (·.oneCell') = true := by simp [Value.oneCell']
theorem nw_same {w : World} {b : Nat} (h : Blk w b 53 (zeroT.take 0 ++ nowL.toArray.toList ++ zeroT.drop (0 + nowL.toArray.size))) : Blk w b 53 nowL := h
set_option maxHeartbeats 4000000 in
set_option maxRecDepth 20000 in
theorem admit_s (B m1 m2 tb lb : Nat) (ep : Int) (b off ca : Nat) (w : World) (hca : 30 ≤ ca) (hY : Wi.Bys w (some ⟨b, off, none⟩) frL) (hb : Blk w B 65 (bookL m1 m2 tb lb ep)) (hm : Mp w m1 #[⟨.int .u32 5, .agg #[.bool true, .int .u32 3, .bool false, .int .i64 1], 0⟩] 1) : Calls Tryz.prog 12 #[.pointer (some ⟨B, 0, none⟩), .slice (some ⟨b, off, none⟩) 30 ca, .agg #[.int .u32 0, .int .i64 0, .int .i64 0, .int .i64 0, .int .i64 0, .int .i64 0]] w fun e w' => e = .returned (.tuple #[.agg (repL 5 0).toArray, .agg nowL.toArray]) ∧ Keeps (fun _ => False) w w' := by
  have HRd := Lib.hid (fun W (hk : Keeps (fun _ => False) w W) => readu_t b off ca W (hY.keeps hk (Wi.far_none _)) hca)
  have HBk := Lib.hid (fun W (hk : Keeps (fun _ => False) w W) => hb.keeps hk (fun h => h))
  have HLm := Lib.hid (fun W (hk : Keeps (fun _ => False) w W) => hm.keeps hk (fun h => h))
  have hr0 := (Blk.new (w.alloc (.cells #[.int .u32 0, .int .i64 0, .int .i64 0, .int .i64 0, .int .i64 0, .int .i64 0] 47)) 49 (repL 0 0)).alloc (.cells zeroT.toArray 53)
  have ht0 := Blk.new ((w.alloc (.cells #[.int .u32 0, .int .i64 0, .int .i64 0, .int .i64 0, .int .i64 0, .int .i64 0] 47)).alloc (.cells (repL 0 0).toArray 49)) 53 zeroT
  simp only [World.size_alloc] at hr0 ht0
  have HR0 := Lib.hid (And.intro hr0 ht0)
  clear hca hY hb hm hr0 ht0
  go_enter Tryz.func12, Tryz.ntmps12
  go_wp2_with (first
    | (go_at_call 15; (with_reducible refine (HRd.out _ ?_).mono ?_); (repeat (first | exact Keeps.refl _ _ | assumption | refine Keeps.alloc ?_ _ | refine Keeps.drew ?_)); rintro e w1 ⟨rfl, hk1⟩; have z1 := hk1.size; simp only [World.size_alloc] at z1; have Z1 := Lib.hid z1; have HRT := Lib.hid (And.intro (HR0.out.1.keeps hk1 (fun h => h)) (HR0.out.2.keeps hk1 (fun h => h))); clear z1; have K1 := Lib.hid (Keeps.trans (by (repeat (first | exact Keeps.refl _ _ | assumption | refine Keeps.alloc ?_ _ | refine Keeps.drew ?_)) : Keeps (fun _ => False) w _) hk1); clear hk1)
    | (go_at_call 16; (with_reducible refine (live_t B m1 m2 tb lb ep _ ?_).mono ?_); exact HBk.out _ (by (repeat (first | exact K1.out | refine Keeps.alloc ?_ _))); rintro e w2 ⟨rfl, rfl⟩))
  have hcb := Blk.new w1 32 [.int .u8 1, .int .u32 5, .int .u32 3, .int .u32 0, .int .i32 0, .int .i32 0, .int .u32 0, .int .u8 0, .slice none 0 0, .slice none 0 0, .int .i32 0, .string ⟨#[]⟩]
  have HCB := Lib.hid (fun W (hk : Keeps (fun _ => False) (w1.alloc (.cells #[.int .u8 1, .int .u32 5, .int .u32 3, .int .u32 0, .int .i32 0, .int .i32 0, .int .u32 0, .int .u8 0, .slice none 0 0, .slice none 0 0, .int .i32 0, .string ⟨#[]⟩] 32)) W) => (hcb.keeps hk (fun h => h)))
  clear hcb
  go_region_held3 (fun W => ∀ i : Nat, W.cell? ⟨w1.heap.size, i, none⟩ = ([.int .u8 1, .int .u32 5, .int .u32 3, .int .u32 0, .int .i32 0, .int .i32 0, .int .u32 0, .int .u8 0, .slice none 0 0, .slice none 0 0, .int .i32 0, .string ⟨#[]⟩] : List Value)[i]?) (first | with_reducible assumption | exact (HCB.out _ (by (repeat (first | exact Keeps.refl _ _ | refine Keeps.drew ?_ | refine Keeps.alloc ?_ _ | with_reducible refine Keeps.trans ?_ K3.out)))).cell) (first
    | (go_at_call 17; (with_reducible refine (nowhere_t _).mono ?_); rintro e w3 ⟨rfl, hk3⟩; have K3 := Lib.hid hk3; clear hk3))
  have hcb3 := (HCB.out w3 (by (repeat (first | exact Keeps.refl _ _ | refine Keeps.drew ?_ | refine Keeps.alloc ?_ _ | with_reducible refine Keeps.trans ?_ K3.out)))).alloc (.cells (ordL B).toArray 73)
  have hc3 := hcb3.cell
  have hmm := @run_makeMap Tryz.prog
  clear hcb3
  have hM0 : Mp ((w3.alloc (.cells (ordL B).toArray 73)).alloc (.map #[] 0)) (w3.heap.size + 1) #[] 0 := by
    have := Mp.new (w3.alloc (.cells (ordL B).toArray 73)) #[] 0
    simp only [World.size_alloc] at this
    exact this
  have k0 : Keeps (fun _ => False) w3 ((w3.alloc (.cells (ordL B).toArray 73)).alloc (.map #[] 0)) := by (repeat (first | exact Keeps.refl _ _ | assumption | refine Keeps.alloc ?_ _ | refine Keeps.drew ?_))
  have ob0 : Blk ((w3.alloc (.cells (ordL B).toArray 73)).alloc (.map #[] 0)) w3.heap.size 73 (ordL B) := (Blk.new w3 _ _).alloc _
  have i1 := ins0 (ob := w3.heap.size) hM0
  obtain ⟨V1, hV1⟩ : ∃ V, V = setM ((w3.alloc (.cells (ordL B).toArray 73)).alloc (.map #[] 0)) (w3.heap.size + 1) #[⟨.int .u8 1, .func (.func 18) #[.pointer (some ⟨w3.heap.size, 0, none⟩)] #[], 0⟩] 1 := ⟨_, rfl⟩
  have hM1 := setM_mp hM0 #[⟨.int .u8 1, .func (.func 18) #[.pointer (some ⟨w3.heap.size, 0, none⟩)] #[], 0⟩] 1
  have kk1 := setM_keeps ((w3.alloc (.cells (ordL B).toArray 73)).alloc (.map #[] 0)) (w3.heap.size + 1) #[⟨.int .u8 1, .func (.func 18) #[.pointer (some ⟨w3.heap.size, 0, none⟩)] #[], 0⟩] 1
  rw [← hV1] at i1 hM1 kk1
  have k1 := k0.then kk1 (fun k hk e => by omega)
  have ob1 := ob0.keeps kk1 (by omega)
  have i2 := ins1 (ob := w3.heap.size) hM1
  obtain ⟨V2, hV2⟩ : ∃ V, V = setM V1 (w3.heap.size + 1) #[⟨.int .u8 1, .func (.func 18) #[.pointer (some ⟨w3.heap.size, 0, none⟩)] #[], 0⟩, ⟨.int .u8 2, .func (.func 19) #[.pointer (some ⟨w3.heap.size, 0, none⟩)] #[], 1⟩] 2 := ⟨_, rfl⟩
  have hM2 := setM_mp hM1 #[⟨.int .u8 1, .func (.func 18) #[.pointer (some ⟨w3.heap.size, 0, none⟩)] #[], 0⟩, ⟨.int .u8 2, .func (.func 19) #[.pointer (some ⟨w3.heap.size, 0, none⟩)] #[], 1⟩] 2
  have kk2 := setM_keeps V1 (w3.heap.size + 1) #[⟨.int .u8 1, .func (.func 18) #[.pointer (some ⟨w3.heap.size, 0, none⟩)] #[], 0⟩, ⟨.int .u8 2, .func (.func 19) #[.pointer (some ⟨w3.heap.size, 0, none⟩)] #[], 1⟩] 2
  rw [← hV2] at i2 hM2 kk2
  have k2 := k1.then kk2 (fun k hk e => by omega)
  have ob2 := ob1.keeps kk2 (by omega)
  have i3 := ins2 (ob := w3.heap.size) hM2
  obtain ⟨V3, hV3⟩ : ∃ V, V = setM V2 (w3.heap.size + 1) #[⟨.int .u8 1, .func (.func 18) #[.pointer (some ⟨w3.heap.size, 0, none⟩)] #[], 0⟩, ⟨.int .u8 2, .func (.func 19) #[.pointer (some ⟨w3.heap.size, 0, none⟩)] #[], 1⟩, ⟨.int .u8 3, .func (.func 20) #[.pointer (some ⟨w3.heap.size, 0, none⟩)] #[], 2⟩] 3 := ⟨_, rfl⟩
  have hM3 := setM_mp hM2 #[⟨.int .u8 1, .func (.func 18) #[.pointer (some ⟨w3.heap.size, 0, none⟩)] #[], 0⟩, ⟨.int .u8 2, .func (.func 19) #[.pointer (some ⟨w3.heap.size, 0, none⟩)] #[], 1⟩, ⟨.int .u8 3, .func (.func 20) #[.pointer (some ⟨w3.heap.size, 0, none⟩)] #[], 2⟩] 3
  have kk3 := setM_keeps V2 (w3.heap.size + 1) #[⟨.int .u8 1, .func (.func 18) #[.pointer (some ⟨w3.heap.size, 0, none⟩)] #[], 0⟩, ⟨.int .u8 2, .func (.func 19) #[.pointer (some ⟨w3.heap.size, 0, none⟩)] #[], 1⟩, ⟨.int .u8 3, .func (.func 20) #[.pointer (some ⟨w3.heap.size, 0, none⟩)] #[], 2⟩] 3
  rw [← hV3] at i3 hM3 kk3
  have k3 := k2.then kk3 (fun k hk e => by omega)
  have ob3 := ob2.keeps kk3 (by omega)
  have i4 := ins3 (ob := w3.heap.size) hM3
  obtain ⟨V4, hV4⟩ : ∃ V, V = setM V3 (w3.heap.size + 1) #[⟨.int .u8 1, .func (.func 18) #[.pointer (some ⟨w3.heap.size, 0, none⟩)] #[], 0⟩, ⟨.int .u8 2, .func (.func 19) #[.pointer (some ⟨w3.heap.size, 0, none⟩)] #[], 1⟩, ⟨.int .u8 3, .func (.func 20) #[.pointer (some ⟨w3.heap.size, 0, none⟩)] #[], 2⟩, ⟨.int .u8 4, .func (.func 21) #[.pointer (some ⟨w3.heap.size, 0, none⟩)] #[], 3⟩] 4 := ⟨_, rfl⟩
  have hM4 := setM_mp hM3 #[⟨.int .u8 1, .func (.func 18) #[.pointer (some ⟨w3.heap.size, 0, none⟩)] #[], 0⟩, ⟨.int .u8 2, .func (.func 19) #[.pointer (some ⟨w3.heap.size, 0, none⟩)] #[], 1⟩, ⟨.int .u8 3, .func (.func 20) #[.pointer (some ⟨w3.heap.size, 0, none⟩)] #[], 2⟩, ⟨.int .u8 4, .func (.func 21) #[.pointer (some ⟨w3.heap.size, 0, none⟩)] #[], 3⟩] 4
  have kk4 := setM_keeps V3 (w3.heap.size + 1) #[⟨.int .u8 1, .func (.func 18) #[.pointer (some ⟨w3.heap.size, 0, none⟩)] #[], 0⟩, ⟨.int .u8 2, .func (.func 19) #[.pointer (some ⟨w3.heap.size, 0, none⟩)] #[], 1⟩, ⟨.int .u8 3, .func (.func 20) #[.pointer (some ⟨w3.heap.size, 0, none⟩)] #[], 2⟩, ⟨.int .u8 4, .func (.func 21) #[.pointer (some ⟨w3.heap.size, 0, none⟩)] #[], 3⟩] 4
  rw [← hV4] at i4 hM4 kk4
  have k4 := k3.then kk4 (fun k hk e => by omega)
  have ob4 := ob3.keeps kk4 (by omega)
  have i5 := ins4 (ob := w3.heap.size) hM4
  obtain ⟨V5, hV5⟩ : ∃ V, V = setM V4 (w3.heap.size + 1) #[⟨.int .u8 1, .func (.func 18) #[.pointer (some ⟨w3.heap.size, 0, none⟩)] #[], 0⟩, ⟨.int .u8 2, .func (.func 19) #[.pointer (some ⟨w3.heap.size, 0, none⟩)] #[], 1⟩, ⟨.int .u8 3, .func (.func 20) #[.pointer (some ⟨w3.heap.size, 0, none⟩)] #[], 2⟩, ⟨.int .u8 4, .func (.func 21) #[.pointer (some ⟨w3.heap.size, 0, none⟩)] #[], 3⟩, ⟨.int .u8 5, .func (.func 22) #[.pointer (some ⟨w3.heap.size, 0, none⟩)] #[], 4⟩] 5 := ⟨_, rfl⟩
  have hM5 := setM_mp hM4 #[⟨.int .u8 1, .func (.func 18) #[.pointer (some ⟨w3.heap.size, 0, none⟩)] #[], 0⟩, ⟨.int .u8 2, .func (.func 19) #[.pointer (some ⟨w3.heap.size, 0, none⟩)] #[], 1⟩, ⟨.int .u8 3, .func (.func 20) #[.pointer (some ⟨w3.heap.size, 0, none⟩)] #[], 2⟩, ⟨.int .u8 4, .func (.func 21) #[.pointer (some ⟨w3.heap.size, 0, none⟩)] #[], 3⟩, ⟨.int .u8 5, .func (.func 22) #[.pointer (some ⟨w3.heap.size, 0, none⟩)] #[], 4⟩] 5
  have kk5 := setM_keeps V4 (w3.heap.size + 1) #[⟨.int .u8 1, .func (.func 18) #[.pointer (some ⟨w3.heap.size, 0, none⟩)] #[], 0⟩, ⟨.int .u8 2, .func (.func 19) #[.pointer (some ⟨w3.heap.size, 0, none⟩)] #[], 1⟩, ⟨.int .u8 3, .func (.func 20) #[.pointer (some ⟨w3.heap.size, 0, none⟩)] #[], 2⟩, ⟨.int .u8 4, .func (.func 21) #[.pointer (some ⟨w3.heap.size, 0, none⟩)] #[], 3⟩, ⟨.int .u8 5, .func (.func 22) #[.pointer (some ⟨w3.heap.size, 0, none⟩)] #[], 4⟩] 5
  rw [← hV5] at i5 hM5 kk5
  have k5 := k4.then kk5 (fun k hk e => by omega)
  have ob5 := ob4.keeps kk5 (by omega)
  have i6 := ins5 (ob := w3.heap.size) hM5
  obtain ⟨V6, hV6⟩ : ∃ V, V = setM V5 (w3.heap.size + 1) #[⟨.int .u8 1, .func (.func 18) #[.pointer (some ⟨w3.heap.size, 0, none⟩)] #[], 0⟩, ⟨.int .u8 2, .func (.func 19) #[.pointer (some ⟨w3.heap.size, 0, none⟩)] #[], 1⟩, ⟨.int .u8 3, .func (.func 20) #[.pointer (some ⟨w3.heap.size, 0, none⟩)] #[], 2⟩, ⟨.int .u8 4, .func (.func 21) #[.pointer (some ⟨w3.heap.size, 0, none⟩)] #[], 3⟩, ⟨.int .u8 5, .func (.func 22) #[.pointer (some ⟨w3.heap.size, 0, none⟩)] #[], 4⟩, ⟨.int .u8 6, .func (.func 23) #[.pointer (some ⟨w3.heap.size, 0, none⟩)] #[], 5⟩] 6 := ⟨_, rfl⟩
  have hM6 := setM_mp hM5 #[⟨.int .u8 1, .func (.func 18) #[.pointer (some ⟨w3.heap.size, 0, none⟩)] #[], 0⟩, ⟨.int .u8 2, .func (.func 19) #[.pointer (some ⟨w3.heap.size, 0, none⟩)] #[], 1⟩, ⟨.int .u8 3, .func (.func 20) #[.pointer (some ⟨w3.heap.size, 0, none⟩)] #[], 2⟩, ⟨.int .u8 4, .func (.func 21) #[.pointer (some ⟨w3.heap.size, 0, none⟩)] #[], 3⟩, ⟨.int .u8 5, .func (.func 22) #[.pointer (some ⟨w3.heap.size, 0, none⟩)] #[], 4⟩, ⟨.int .u8 6, .func (.func 23) #[.pointer (some ⟨w3.heap.size, 0, none⟩)] #[], 5⟩] 6
  have kk6 := setM_keeps V5 (w3.heap.size + 1) #[⟨.int .u8 1, .func (.func 18) #[.pointer (some ⟨w3.heap.size, 0, none⟩)] #[], 0⟩, ⟨.int .u8 2, .func (.func 19) #[.pointer (some ⟨w3.heap.size, 0, none⟩)] #[], 1⟩, ⟨.int .u8 3, .func (.func 20) #[.pointer (some ⟨w3.heap.size, 0, none⟩)] #[], 2⟩, ⟨.int .u8 4, .func (.func 21) #[.pointer (some ⟨w3.heap.size, 0, none⟩)] #[], 3⟩, ⟨.int .u8 5, .func (.func 22) #[.pointer (some ⟨w3.heap.size, 0, none⟩)] #[], 4⟩, ⟨.int .u8 6, .func (.func 23) #[.pointer (some ⟨w3.heap.size, 0, none⟩)] #[], 5⟩] 6
  rw [← hV6] at i6 hM6 kk6
  have k6 := k5.then kk6 (fun k hk e => by omega)
  have ob6 := ob5.keeps kk6 (by omega)
  have hlk := lkK hM6
  have K6 := Lib.hid (K1.out.trans ((show Keeps (fun _ => False) w1 w3 from by (repeat (first | exact Keeps.refl _ _ | refine Keeps.drew ?_ | refine Keeps.alloc ?_ _ | with_reducible refine Keeps.trans ?_ K3.out))).trans k6))
  have hcb6 := (HCB.out w3 (by (repeat (first | exact Keeps.refl _ _ | refine Keeps.drew ?_ | refine Keeps.alloc ?_ _ | with_reducible refine Keeps.trans ?_ K3.out)))).keeps k6 (fun h => h)
  have hc6 := hcb6.cell
  have HA6 := Lib.hid ob6
  have HZ := Lib.hid (show w.heap.size + 3 ≤ w1.heap.size ∧ w1.heap.size < w3.heap.size ∧ w3.heap.size < V6.heap.size from ⟨Z1.out, by have z3 := K3.out.size; simp at z3; omega, ob6.lt⟩)
  have K16 := Lib.hid ((show Keeps (fun _ => False) w1 w3 from by (repeat (first | exact Keeps.refl _ _ | refine Keeps.drew ?_ | refine Keeps.alloc ?_ _ | with_reducible refine Keeps.trans ?_ K3.out))).trans k6)
  clear hM0 hM1 hM2 hM3 hM4 hM5 hM6 hV1 hV2 hV3 hV4 hV5 hV6 kk1 kk2 kk3 kk4 kk5 kk6 k0 k1 k2 k3 k4 k5 k6 ob0 ob1 ob2 ob3 ob4 ob5 ob6 hcb6
  go_wp2_with (go_at_call 18; (with_reducible refine (stale_t w3.heap.size B m1 m2 tb lb ep V6 HA6.out (HBk.out V6 K6.out) (HLm.out V6 K6.out)).mono ?_); rintro e w7 ⟨rfl, hk7⟩; have H7 := Lib.hid hk7; clear hk7)
  have q := HZ.out
  have hrA := ((HRT.out.1.keeps K16.out (fun h => h)).keeps H7.out (fun h => h)).alloc (.cells (repL 5 0).toArray 49)
  have htA := ((HRT.out.2.keeps K16.out (fun h => h)).keeps H7.out (fun h => h)).alloc (.cells (repL 5 0).toArray 49)
  have hnA := Blk.new w7 49 (repL 5 0)
  have hz7 := H7.out.size
  have HS11 := Lib.hid (fun W' (hk : Keeps (fun k => k = w.heap.size + 1 ∨ k = w.heap.size + 1 + 1) (w7.alloc (.cells (repL 5 0).toArray 49)) W') => (show (∀ i : Nat, W'.cell? ⟨w7.heap.size, i, none⟩ = (repL 5 0 : List Value)[i]?) from (hnA.keeps hk (by omega)).cell))
  have HRK := Lib.hid (fun W' (hk : Keeps (fun k => k = w.heap.size + 1 + 1) (w7.alloc (.cells (repL 5 0).toArray 49)) W') => hrA.keeps hk (by omega))
  have HTK := Lib.hid (fun W' (hk : Keeps (fun k => k = w.heap.size + 1) (w7.alloc (.cells (repL 5 0).toArray 49)) W') => htA.keeps hk (by omega))
  clear hrA htA hnA hz7 q
  apply join_w (fun W => Blk W (w.heap.size + 1) 49 (repL 5 0) ∧ Blk W (w.heap.size + 1 + 1) 53 nowL ∧ Keeps (fun k => k = w.heap.size + 1 ∨ k = w.heap.size + 1 + 1) (w7.alloc (.cells (repL 5 0).toArray 49)) W)
  · refine wp_region_held_drew (S := fun W => (∀ i : Nat, W.cell? ⟨w7.heap.size, i, none⟩ = (repL 5 0 : List Value)[i]?)) (by kernel_rfl) (HS11.out _ (by (repeat (first | exact Keeps.refl _ _ | refine Keeps.drew ?_ | with_reducible refine Keeps.trans ?_ (KR.out.mono (T := fun k => k = w.heap.size + 1 ∨ k = w.heap.size + 1 + 1) (fun _ _ e => .inl e)) | with_reducible refine Keeps.trans ?_ (KT.out.mono (T := fun k => k = w.heap.size + 1 ∨ k = w.heap.size + 1 + 1) (fun _ _ e => .inr e)) | with_reducible refine Keeps.trans ?_ (KN.out.mono (T := fun k => k = w.heap.size + 1 ∨ k = w.heap.size + 1 + 1) (fun _ _ h => h.elim)))))) (fun hS0 => ?_)
    (refine wpAnyH_take (i := 0) (v := ?_) rfl (by kernel_rfl) (by kernel_rfl) (by kernel_rfl) (fun _ _ _ h => False.elim h) (Or.inl ⟨by kernel_rfl, ?_⟩) (by with_reducible exact hS0) ?_; rotate_left; (focus (rintro w hSw1; (try dsimp only at hSw1); go_simp; (try with_reducible rfl))); simp only [Act.put, List.getElem_toArray, List.getElem_cons_succ, List.getElem_cons_zero, List.setIfInBounds_toArray, List.set_cons_zero, List.set_cons_succ])
    refine anyH_one 1 (by kernel_rfl) rfl (by rfl) (fun K hK => ?_)
    (go_simp; go_at_call 17; (refine (nowhere_t _).mono ?_); rintro e wn ⟨rfl, hkn⟩; have KN := Lib.hid hkn; clear hkn)
    refine hK _ _ (HS11.out _ (by (repeat (first | exact Keeps.refl _ _ | refine Keeps.drew ?_ | with_reducible refine Keeps.trans ?_ (KR.out.mono (T := fun k => k = w.heap.size + 1 ∨ k = w.heap.size + 1 + 1) (fun _ _ e => .inl e)) | with_reducible refine Keeps.trans ?_ (KT.out.mono (T := fun k => k = w.heap.size + 1 ∨ k = w.heap.size + 1 + 1) (fun _ _ e => .inr e)) | with_reducible refine Keeps.trans ?_ (KN.out.mono (T := fun k => k = w.heap.size + 1 ∨ k = w.heap.size + 1 + 1) (fun _ _ h => h.elim)))))) ?_
    try simp only [Act.put, List.getElem_toArray, List.getElem_cons_succ, List.getElem_cons_zero, List.setIfInBounds_toArray, List.set_cons_zero, List.set_cons_succ]
    refine anyH_one 2 (by kernel_rfl) rfl (by rfl) (fun K hK => ?_)
    (refine wp_store_blk 49 (.tmp 6) (.tmp 63) rfl (w.heap.size + 1) 0 49 (repL 0 0) (repL 5 0).toArray rfl rfl (HRK.out _ (by (repeat (first | exact Keeps.refl _ _ | refine Keeps.drew ?_ | with_reducible refine Keeps.trans ?_ KT.out | with_reducible refine Keeps.trans ?_ (KN.out.mono (T := fun k => k = w.heap.size + 1 + 1) (fun _ _ h => h.elim)))))) rfit5 (rep_info 5 0) rone5 ?_; intro w8 hb8 hg8 hz8; have KR := Lib.hid ((Keeps.of_grown hg8).mono (T := fun k => k = w.heap.size + 1) (fun k _ e => by injection e)); have B8 := Lib.hid (rsame5 hb8); clear hb8 hg8 hz8)
    refine hK _ _ (HS11.out _ (by (repeat (first | exact Keeps.refl _ _ | refine Keeps.drew ?_ | with_reducible refine Keeps.trans ?_ (KR.out.mono (T := fun k => k = w.heap.size + 1 ∨ k = w.heap.size + 1 + 1) (fun _ _ e => .inl e)) | with_reducible refine Keeps.trans ?_ (KT.out.mono (T := fun k => k = w.heap.size + 1 ∨ k = w.heap.size + 1 + 1) (fun _ _ e => .inr e)) | with_reducible refine Keeps.trans ?_ (KN.out.mono (T := fun k => k = w.heap.size + 1 ∨ k = w.heap.size + 1 + 1) (fun _ _ h => h.elim)))))) ?_
    try simp only [Act.put, List.getElem_toArray, List.getElem_cons_succ, List.getElem_cons_zero, List.setIfInBounds_toArray, List.set_cons_zero, List.set_cons_succ]
    refine anyH_one 3 (by kernel_rfl) rfl (by rfl) (fun K hK => ?_)
    (refine wp_store_blk 53 (.tmp 7) (.tmp 64) rfl (w.heap.size + 1 + 1) 0 53 zeroT nowL.toArray rfl rfl (HTK.out _ (by (repeat (first | exact Keeps.refl _ _ | refine Keeps.drew ?_ | with_reducible refine Keeps.trans ?_ KR.out | with_reducible refine Keeps.trans ?_ (KN.out.mono (T := fun k => k = w.heap.size + 1) (fun _ _ h => h.elim)))))) nw_fit now_info nw_one ?_; intro w9 hb9 hg9 hz9; have KT := Lib.hid ((Keeps.of_grown hg9).mono (T := fun k => k = w.heap.size + 1 + 1) (fun k _ e => by injection e)); have B9 := Lib.hid (nw_same hb9); clear hb9 hg9 hz9)
    refine hK _ _ (HS11.out _ (by (repeat (first | exact Keeps.refl _ _ | refine Keeps.drew ?_ | with_reducible refine Keeps.trans ?_ (KR.out.mono (T := fun k => k = w.heap.size + 1 ∨ k = w.heap.size + 1 + 1) (fun _ _ e => .inl e)) | with_reducible refine Keeps.trans ?_ (KT.out.mono (T := fun k => k = w.heap.size + 1 ∨ k = w.heap.size + 1 + 1) (fun _ _ e => .inr e)) | with_reducible refine Keeps.trans ?_ (KN.out.mono (T := fun k => k = w.heap.size + 1 ∨ k = w.heap.size + 1 + 1) (fun _ _ h => h.elim)))))) ?_
    try simp only [Act.put, List.getElem_toArray, List.getElem_cons_succ, List.getElem_cons_zero, List.setIfInBounds_toArray, List.set_cons_zero, List.set_cons_succ]
    refine wpAnyH_done (by kernel_rfl) ?_ _
    exact ⟨rfl, B8.out.keeps KT.out (by omega), B9.out, by (repeat (first | exact Keeps.refl _ _ | refine Keeps.drew ?_ | with_reducible refine Keeps.trans ?_ (KR.out.mono (T := fun k => k = w.heap.size + 1 ∨ k = w.heap.size + 1 + 1) (fun _ _ e => .inl e)) | with_reducible refine Keeps.trans ?_ (KT.out.mono (T := fun k => k = w.heap.size + 1 ∨ k = w.heap.size + 1 + 1) (fun _ _ e => .inr e)) | with_reducible refine Keeps.trans ?_ (KN.out.mono (T := fun k => k = w.heap.size + 1 ∨ k = w.heap.size + 1 + 1) (fun _ _ h => h.elim))))⟩
  rintro w10 ⟨hb1, hb2, hk10⟩
  have HF := Lib.hid (And.intro hb1 (And.intro hb2 hk10))
  clear hb1 hb2 hk10
  go_wp2
  refine bodyPost_ret (results_rows rfl _ _ _ _ _ _ _ _ _ _ _ _ rfl HF.out.1 Tryz.underlying49 rfl (rep_info 5 0) rfl HF.out.2.1 Tryz.underlying53 rfl now_info) rfl ?_
  have q := HZ.out
  have z7 := H7.out.size
  have kB := ((K6.out.trans H7.out).alloc (.cells (repL 5 0).toArray 49)).then HF.out.2.2 (fun i hi e => by omega)
  exact ⟨rfl, kB⟩
end Am
end Go.Proofs.YtldlkepagmmohaaGreatDoor
